import Derived.Test.YtjeilgogjoidjaaGreatApply
import Derived.Test.YtjeilgogjoidjaaGreatStack
import Derived.Test.YtjeilgogjoidjaaGreatHeld
import Derived.Deep.AppendLies
import Derived.Test.YtjeilgogjoidjaaGreatLists
/-! Evaluation: the run over a stack. -/
namespace Go.Proofs.YtjeilgogjoidjaaGreat
open Go.RowKit
set_option linter.unusedVariables false
set_option linter.unusedSimpArgs false
def stepV (row : List Val) (st : Option (List Val)) (t : Tok) : Option (List Val) :=
  st.bind fun s => (applyV t (s.drop (s.length - (takesB t).toNat)) row).map fun v => s.take (s.length - (takesB t).toNat) ++ [v]
def runV (row : List Val) (e : List Tok) : Option (List Val) := e.foldl (stepV row) (some [])
def evL (e : List Tok) (row : List Val) : Option Val := if okVals row && exprL row.length e then (runV row e).bind (·[0]?) else none
def trL (e : List Tok) (row : List Val) : Int := match evL e row with | some v => truthV v | none => -1
theorem runV_take {row : List Val} {e : List Tok} {k : Nat} {x : Tok} (hx : e[k]? = some x) : runV row (e.take (k + 1)) = stepV row (runV row (e.take k)) x := by
  unfold runV
  obtain ⟨hk, rfl⟩ := List.getElem?_eq_some_iff.mp hx
  rw [List.take_succ_eq_append_getElem hk, List.foldl_append]
  rfl
theorem foldV_none (row : List Val) : ∀ l : List Tok, l.foldl (stepV row) none = none
  | [] => rfl
  | a :: l => foldV_none row l
theorem runV_none {row : List Val} {e : List Tok} {k : Nat} (h : runV row (e.take k) = none) : runV row e = none := by
  unfold runV at *
  rw [← List.take_append_drop k e, List.foldl_append, h]
  exact foldV_none _ _
theorem exprRun_some {cols : Int} {e : List Tok} {r : Int} (h : exprRun cols e = some r) (k : Nat) : ∃ q, exprRun cols (e.take k) = some q := by
  cases hq : exprRun cols (e.take k) with
  | some q => exact ⟨q, rfl⟩
  | none => rw [exprRun_none hq] at h; cases h
theorem okB_vNull : okB vNull = true := by simp [okB, vNull]
theorem okB_vInt {n : Int} (h : -1000000000 ≤ n ∧ n ≤ 1000000000) : okB (vInt n) = true := by simp [okB, vInt, h.1, h.2]
theorem valT_ok {t : Int} {u : Val} (ht : t = -1 ∨ t = 0 ∨ t = 1 ∨ t = 2) (h : valT t = some u) : okB u = true := by
  rcases ht with rfl | rfl | rfl | rfl <;> simp [valT] at h <;> subst h
  · exact okB_vInt (by decide)
  · exact okB_vInt (by decide)
  · exact okB_vNull
theorem sumV_ok {a b u : Val} {s : Int} (h : sumV a b s = some u) : okB u = true := by
  unfold sumV at h
  split at h
  · cases h
  · split at h
    · cases h; exact okB_vNull
    · split at h
      · cases h; assumption
      · cases h
theorem two_ok {k : Int} {a b u : Val} (h : two k a b = some u) : okB u = true := by
  unfold two at h
  split at h
  · exact valT_ok (eq3_in _ _) h
  split at h
  · exact valT_ok (less3_in _ _) h
  split at h
  · exact valT_ok (and3_in _ _) h
  split at h
  · exact valT_ok (or3T_in _ _) h
  split at h
  · exact sumV_ok h
  · exact sumV_ok h
theorem applyV_ok {t : Tok} {l row : List Val} {u : Val} (ht : isTokB t row.length = true) (hr : ∀ v ∈ row, okB v = true) (h : applyV t l row = some u) : okB u = true := by
  unfold applyV at h
  split at h
  · exact hr u (List.mem_of_getElem? h)
  split at h
  · rename_i h1 h2
    cases h
    have hk : t.kind = 2 := by assumption
    simp [isTokB, hk] at ht
    exact ht.2
  split at h
  · obtain ⟨a, _, h⟩ := Option.bind_eq_some_iff.mp h
    exact valT_ok (not3_in _) h
  split at h
  · obtain ⟨a, _, h⟩ := Option.bind_eq_some_iff.mp h
    cases h
    exact okB_vInt (by split <;> decide)
  · obtain ⟨a, _, h⟩ := Option.bind_eq_some_iff.mp h
    obtain ⟨b, _, h⟩ := Option.bind_eq_some_iff.mp h
    exact two_ok h
def evRel (W : World) (la lb : Nat) (e : List Tok) (row : List Val) (s i : Value) (wr : World) : Prop :=
  ∃ (k : Nat) (st : List Val) (p l c : Nat) (rows : List Value), k ≤ la ∧ l ≤ k ∧ i = .int .i64 k ∧ s = .slice (some ⟨p, 0, none⟩) l c ∧ wr.ownsRow W.heap.size 50 3 s l rows ∧
    Flat Kd.val wr (fun _ => False) rows st ∧ st.length = l ∧ Hid (runV row (e.take k) = some st) ∧ Hid (exprRun lb (e.take k) = some (st.length : Int)) ∧ (∀ v ∈ st, okB v = true) ∧ Grow W wr
theorem own_cap {w : World} {B : Nat} {E : TypeId} {A : Option Addr} {len cap size : Nat} {rows : List Value} (h : w.ownsRow B E size (.slice A len cap) len rows) : len ≤ cap ∧ cap ≤ maxLen := by
  obtain ⟨hr, ⟨hv, h0⟩ | ⟨g, cap', cur, hv, hg, hh, hle, hmx, hs, ht⟩⟩ := h
  · simp only [Value.slice.injEq] at hv
    obtain ⟨rfl, rfl, rfl⟩ := hv
    simp
  · simp only [Value.slice.injEq] at hv
    obtain ⟨rfl, _, rfl⟩ := hv
    exact ⟨hle, hmx⟩
def optE (o : Option Val) (w : World) : Ending → World → Prop := match o with
  | some u => Ret w (.tuple #[.agg #[.int .i64 u.kind, .int .i64 u.n, .string u.s], .bool true])
  | none => Ret w (.tuple #[.agg #[.int .i64 0, .int .i64 0, .string ⟨#[]⟩], .bool false])
theorem optE_none {o : Option Val} {w w' : World} (h : o = none) (hg : Grow w w') : optE o w (.returned (.tuple #[.agg #[.int .i64 0, .int .i64 0, .string ⟨#[]⟩], .bool false])) w' := by subst h; exact ⟨rfl, hg⟩
theorem optE_some {o : Option Val} {u : Val} {w w' : World} (h : o = some u) (hg : Grow w w') : optE o w (.returned (.tuple #[.agg #[.int .i64 u.kind, .int .i64 u.n, .string u.s], .bool true])) w' := by subst h; exact ⟨rfl, hg⟩
theorem okB_size {u : Val} (h : okB u = true) : u.s.size ≤ maxLen := by
  have hz : u.s.toList.length = u.s.size := by rw [ByteArray.toList_eq]; exact Array.length_toList
  unfold okB at h
  unfold maxLen
  split at h
  · simp at h; rw [h.2] at hz; simp at hz; omega
  split at h
  · simp at h; rw [h.2.2] at hz; simp at hz; omega
  split at h
  · simp at h; omega
  · cases h
theorem own_grow {w w' : World} {B : Nat} {E : TypeId} {v : Value} {n size : Nat} {rows : List Value} (h : w.ownsRow B E size v n rows) (hg : Grow w w') : w'.ownsRow B E size v n rows := by
  obtain ⟨hr, h0 | ⟨g, cap', cur, hv, hB, hh, hle, hmx, hs, ht⟩⟩ := h
  · exact ⟨hr, .inl h0⟩
  · refine ⟨hr, .inr ⟨g, cap', cur, hv, hB, ?_, hle, hmx, hs, ht⟩⟩
    rw [hg.block]
    · exact hh
    · rcases Nat.lt_or_ge g w.heap.size with h' | h'
      · exact h'
      · simp [Array.getElem?_eq_none h'] at hh
theorem own_base {w : World} {B : Nat} {E : TypeId} {p : Nat} {len cap n size : Nat} {rows : List Value} (h : w.ownsRow B E size (.slice (some ⟨p, 0, none⟩) len cap) n rows) : B ≤ p := by
  obtain ⟨hr, h0 | ⟨g, cap', cur, hv, hB, hh, hle, hmx, hs, ht⟩⟩ := h
  · cases h0.1
  · simp only [Value.slice.injEq, Option.some.injEq, Addr.mk.injEq] at hv
    obtain ⟨⟨rfl, _⟩, _⟩ := hv
    exact hB
theorem apply_some (cs : List Value) (x : Tok) {S : Nat → Prop} {W0 : World} (h : Kd.tok.rd W0 S cs x) {A B : Option Addr} {la ca lb cb : Nat} {l row : List Val} (w : World)
    (hl : IsSl Kd.val w (· < w.heap.size) A la ca l) (hr : IsSl Kd.val w (· < w.heap.size) B lb cb row) (ht : isTokB x lb = true) (hla : (la : Int) = takesB x) (hok : ∀ v ∈ l, okB v = true) {u : Val} (hu : applyV x l row = some u) :
    Calls Tryz.prog 173 #[.agg cs.toArray, .slice A la ca, .slice B lb cb] w (Ret w (.tuple #[.agg #[.int .i64 u.kind, .int .i64 u.n, .string u.s], .bool true])) :=
  (apply_any cs x h w hl hr ht hla hok).mono fun e w' hv => by rw [hu] at hv; exact hv
theorem apply_none (cs : List Value) (x : Tok) {S : Nat → Prop} {W0 : World} (h : Kd.tok.rd W0 S cs x) {A B : Option Addr} {la ca lb cb : Nat} {l row : List Val} (w : World)
    (hl : IsSl Kd.val w (· < w.heap.size) A la ca l) (hr : IsSl Kd.val w (· < w.heap.size) B lb cb row) (ht : isTokB x lb = true) (hla : (la : Int) = takesB x) (hok : ∀ v ∈ l, okB v = true) (hu : applyV x l row = none) :
    Calls Tryz.prog 173 #[.agg cs.toArray, .slice A la ca, .slice B lb cb] w (fun e w' => ∃ k n s, Ret w (.tuple #[.agg #[.int .i64 k, .int .i64 n, .string s], .bool false]) e w') :=
  (apply_any cs x h w hl hr ht hla hok).mono fun e w' hv => by rw [hu] at hv; obtain ⟨⟨k, n, s, he⟩, hg⟩ := hv; exact ⟨k, n, s, he, hg⟩
set_option maxHeartbeats 4000000 in
theorem iEval_any {A B : Option Addr} {la ca lb cb : Nat} {e : List Tok} {row : List Val} (w : World) (he : IsSl Kd.tok w (· < w.heap.size) A la ca e) (hr : IsSl Kd.val w (· < w.heap.size) B lb cb row) :
    Calls Tryz.prog 157 #[.slice A la ca, .slice B lb cb] w (optE (evL e row) w) := by
  have hlen : la ≤ maxLen := Nat.le_trans he.2.1 he.2.2.1
  have hlen' : lb ≤ maxLen := Nat.le_trans hr.2.1 hr.2.2.1
  unfold maxLen at hlen hlen'
  have HE := Lib.hid he.1
  have HR := Lib.hid hr.1
  go_enter Tryz.func157, Tryz.ntmps157
  go_wp2_with fail
  generalize hW : World.alloc w _ = W
  obtain ⟨hg, hs', k0⟩ := boxedB hW
  obtain ⟨k1, kf⟩ := free_of k0
  clear hW
  have hcur := Grow.refl W
  by_cases ho : okVals row = true
  rotate_left
  · replace ho : okVals row = false := by simpa using ho
    go_wp2_with (first | (go_at_call 54; (with_reducible refine (areVals_any _ (hr.grow (hg.trans hcur))).mono ?_); rintro e w1 ⟨rfl, hb⟩; replace hcur := hcur.trans hb; replace hc := hcur.same; replace hcf := hcur.sameF; clear hb))
    have hn := Lib.hid (show evL e row = none by simp [evL, ho])
    exact bodyPost_ret (v := .tuple #[.agg #[.int .i64 0, .int .i64 0, .string ⟨#[]⟩], .bool false]) (by simp [results, Tryz.results157, go_sem, hc, k1, hs']) rfl (optE_none hn.out (by repeat (with_reducible first | exact Grow.refl _ | assumption | refine Grow.drew ?_ | refine Grow.alloc ?_ _ | refine Grow.set ?_ (by first | exact Nat.le_refl _ | (simp; done) | (simp; omega) | omega) _ | exact And.left (by assumption) | refine Grow.trans ?_ (by assumption))))
  have hlb : (lb : Int) ≤ 16 := by simp [okVals, HR.out] at ho; omega
  by_cases hx : exprB lb e = true
  rotate_left
  · replace hx : exprB lb e = false := by simpa using hx
    go_wp2_with (first | (go_at_call 54; (with_reducible refine (areVals_any _ (hr.grow (hg.trans hcur))).mono ?_); rintro e w1 ⟨rfl, hb⟩; replace hcur := hcur.trans hb; replace hc := hcur.same; replace hcf := hcur.sameF; clear hb) | (go_at_call 146; (with_reducible refine (iExprOk_any _ _ (he.grow (hg.trans hcur))).mono ?_); rintro e w1 ⟨rfl, hb⟩; replace hcur := hcur.trans hb; replace hc := hcur.same; replace hcf := hcur.sameF; clear hb))
    have hn := Lib.hid (show evL e row = none by simp [evL, HR.out, exprB, inB] at *; intros; simp_all)
    exact bodyPost_ret (v := .tuple #[.agg #[.int .i64 0, .int .i64 0, .string ⟨#[]⟩], .bool false]) (by simp [results, Tryz.results157, go_sem, hc, k1, hs']) rfl (optE_none hn.out (by repeat (with_reducible first | exact Grow.refl _ | assumption | refine Grow.drew ?_ | refine Grow.alloc ?_ _ | refine Grow.set ?_ (by first | exact Nat.le_refl _ | (simp; done) | (simp; omega) | omega) _ | exact And.left (by assumption) | refine Grow.trans ?_ (by assumption))))
  go_wp2_with (first | (go_at_call 54; (with_reducible refine (areVals_any _ (hr.grow (hg.trans hcur))).mono ?_); rintro e w1 ⟨rfl, hb⟩; replace hcur := hcur.trans hb; replace hc := hcur.same; replace hcf := hcur.sameF; clear hb) | (go_at_call 146; (with_reducible refine (iExprOk_any _ _ (he.grow (hg.trans hcur))).mono ?_); rintro e w1 ⟨rfl, hb⟩; replace hcur := hcur.trans hb; replace hc := hcur.same; replace hcf := hcur.sameF; clear hb))
  have hx1 : exprRun lb e = some 1 := by simp [exprB, exprL] at hx; exact hx.2.1
  have HXL := Lib.hid (show exprL lb e = true by simp [exprB] at hx; exact hx.2)
  have hl24 : la ≤ 24 := by simp [exprB, exprL, HE.out] at hx; omega
  go_loopw [6, 26] (evRel W la lb e row) (fun _ i _ => la - (intOf i).toNat)
  case atStart =>
    have hG : Grow W (w1.alloc (.cells #[] 50)) := hcur.alloc _
    exact ⟨0, [], _, 0, 0, [], Nat.zero_le _, Nat.le_refl _, rfl, rfl, ⟨rfl, .inr ⟨_, 0, #[], rfl, hcur.size, new_block _ _, Nat.le_refl _, by simp [maxLen], rfl, rfl⟩⟩, rfl, rfl, rfl, rfl, by simp, hG⟩
  case round =>
    clear hcur hc hcf
    obtain ⟨k, st, p, l, c, rows, hk, hlk, hi, hs, hown, hf, hst, hrun, hxr, hok, hG⟩ := hrel
    subst hi hs
    have hcur := hG
    obtain ⟨hlc, hcm⟩ : l ≤ c ∧ c ≤ maxLen := own_cap hown
    unfold maxLen at hcm
    by_cases hlt : k < la
    · obtain ⟨b, off, x, rfl, hx, _, hb, hxs, c0, c1, c2, c3, c4, hrd⟩ := tok_at (he.grow (hg.trans hG)) hlt
      obtain ⟨t0, t1⟩ := takesB_le x
      have ⟨hT, hle⟩ : isTokB x lb = true ∧ takesB x ≤ st.length := by
        obtain ⟨q, hq⟩ := exprRun_some hx1 (k + 1)
        rw [exprRun_take hx.out, hxr.out, exprStep, Option.bind_some] at hq
        split at hq
        · assumption
        · cases hq
      have HA := Lib.hid (runV_take hx.out (row := row))
      obtain ⟨d, hd⟩ : ∃ d : Nat, takesB x = d := ⟨(takesB x).toNat, by omega⟩
      rw [hd] at hle t0 t1
      obtain ⟨f, hfd⟩ : ∃ f : Nat, l = f + d := ⟨l - d, by omega⟩
      have hw : wrap64 ((l : Int) - d) = (f : Int) := by unfold wrap64; omega
      have hw2 : (l : Int) - d = (f : Int) := by omega
      have hfl : f ≤ l := by omega
      have hd' : l - f = d := by omega
      have HFD := Lib.hid hfd
      clear hfd
      clear t0
      go_wp2_with fail
      generalize hW2 : World.alloc wr _ = W2
      obtain ⟨gW2, sW2, m0⟩ := boxedB hW2
      obtain ⟨m1, mf⟩ := free_of m0
      clear hW2
      refine (takes_any _ x hrd _).mono ?_
      rintro e2 w2 ⟨rfl, g2⟩
      have hc2 := (gW2.trans g2).same
      have hq2 : ∀ o, w2.cell? ⟨wr.heap.size, o, none⟩ = _ := fun o => (g2.same _ _ sW2).trans (m1 o)
      go_wp2_with fail
      have i0 : (0 : Int) ≤ f := by omega
      have i1 : (f : Int) ≤ l := by omega
      have i2 : (l : Int) ≤ c := by omega
      have i3 : (f : Int) ≤ c := by omega
      have gw : Grow W w2 := hG.trans (gW2.trans g2)
      have hsl : IsSl Kd.val wr (· < wr.heap.size) (some ⟨p, f * 3, none⟩) d (c - f) (st.drop f) := by
        have h := (own_isSl (S' := (· < wr.heap.size)) hown hf hst (fun _ h => h.elim) (fun _ _ h _ => h)).drop hfl
        rw [hd', Nat.zero_add] at h
        exact h
      have hdr : ∀ v ∈ st.drop f, okB v = true := fun v hv => hok v (List.mem_of_mem_drop hv)
      have GB : Grow W2 w2.drew := g2.drew
      by_cases hcf : f = c
      · subst hcf
        replace hsl : IsSl Kd.val wr (· < wr.heap.size) (some ⟨p, 0, none⟩) d 0 (st.drop f) := ⟨hsl.1, by have := hsl.2.1; omega, Nat.zero_le _, fun h0 => by omega⟩
        have HST := Lib.hid hst
        have HW := Lib.hid hw
        have HLE := Lib.hid hle
        clear hst hw hle
        have G1 : Grow wr W2 := gW2
        have G2 : Grow w W2 := hg.trans (hG.trans gW2)
        cases hv : applyV x (st.drop f) row with
        | none =>
          have HV := Lib.hid hv
          have hno := Lib.hid (show evL e row = none by
            rw [evL, ho, HR.out, HXL.out, Bool.and_self, if_pos rfl, runV_none (k := k + 1) (by rw [HA.out, hrun.out, stepV, Option.bind_some, HST.out, hd, Int.toNat_natCast, show l - d = f by omega, hv]; rfl)]; rfl)
          clear hv
          refine wp_region_held_drew (S := (fun w' => Grow W2 w' ∧ Same W2 w')) (by kernel_rfl) (by exact Grow.both (by repeat (with_reducible first | exact Grow.refl _ | assumption | refine Grow.drew ?_ | refine Grow.alloc ?_ _ | refine Grow.set ?_ (by first | exact Nat.le_refl _ | (simp; done) | (simp; omega) | omega) _ | exact And.left (by assumption) | refine Grow.trans ?_ (by assumption)))) (fun hHeld => ?_)
          ((refine tk 0 36 rfl rfl (v := ?_) ?_ ?_; rotate_left 1; (focus (intro w hSw; (try dsimp only at hSw); go_simp; (try with_reducible rfl); done)); all_goals (try simp only [Act.put, List.setIfInBounds_toArray, List.set_cons_zero, List.set_cons_succ])); (refine tk 1 37 rfl rfl (v := ?_) ?_ ?_; rotate_left 1; (focus (intro w hSw; (try dsimp only at hSw); go_simp; (try with_reducible rfl); done)); all_goals (try simp only [Act.put, List.setIfInBounds_toArray, List.set_cons_zero, List.set_cons_succ])); (refine tk 2 38 rfl rfl (v := ?_) ?_ ?_; rotate_left 1; (focus (intro w hSw; (try dsimp only at hSw); go_simp; (try with_reducible rfl); done)); all_goals (try simp only [Act.put, List.setIfInBounds_toArray, List.set_cons_zero, List.set_cons_succ])); (refine tk 3 39 rfl rfl (v := ?_) ?_ ?_; rotate_left 1; (focus (intro w hSw; (try dsimp only at hSw); go_simp; (try with_reducible rfl); done)); all_goals (try simp only [Act.put, List.setIfInBounds_toArray, List.set_cons_zero, List.set_cons_succ])); (refine tk 4 40 rfl rfl (v := ?_) ?_ ?_; rotate_left 1; (focus (intro w hSw; (try dsimp only at hSw); go_simp; (try with_reducible rfl); done)); all_goals (try simp only [Act.put, List.setIfInBounds_toArray, List.set_cons_zero, List.set_cons_succ])))
          refine wpAnyH_ready (rs := [5, 9]) (by kernel_rfl) (by simp) ?_
          refine AllReadyH.cons rfl (fun K hK => ?_) (AllReadyH.cons rfl (fun K hK => ?_) AllReadyH.nil)
          · go_simp
            (go_at_call 173; refine (apply_none _ x hrd _ (hsl.grow (G1.trans (And.left (by assumption)))) (hr.grow (G2.trans (And.left (by assumption)))) hT hd.symm hdr HV.out).mono ?_; rintro e4 w4 ⟨k4, n4, s4, rfl, hb4⟩)
            have gX : Grow W2 w4 := GB.trans hb4
            refine hK.out _ _ (Grow.both gX) (fun hHeld => ?_)
            clear hK K
            (try simp only [Act.put, List.setIfInBounds_toArray, List.set_cons_zero, List.set_cons_succ])
            ((refine tk 6 35 rfl rfl (v := ?_) ?_ ?_; rotate_left 1; (focus (intro w hSw; (try dsimp only at hSw); go_simp; (try with_reducible rfl); done)); all_goals (try simp only [Act.put, List.setIfInBounds_toArray, List.set_cons_zero, List.set_cons_succ])))
            ((refine tk 7 42 rfl rfl (v := ?_) ?_ ?_; rotate_left 1; (focus (intro w hSw; (try dsimp only at hSw); go_simp; (try with_reducible rfl); done)); all_goals (try simp only [Act.put, List.setIfInBounds_toArray, List.set_cons_zero, List.set_cons_succ])); (refine tk 8 43 rfl rfl (v := ?_) ?_ ?_; rotate_left 1; (focus (intro w hSw; (try dsimp only at hSw); go_simp; (try with_reducible rfl); done)); all_goals (try simp only [Act.put, List.setIfInBounds_toArray, List.set_cons_zero, List.set_cons_succ])))
            (refine wpAnyH_ready (rs := [9]) (by kernel_rfl) (by simp) ?_; refine AllReadyH.cons rfl (fun K hK => ?_) AllReadyH.nil; go_simp; refine hK.out _ _ (by exact Grow.both (by repeat (with_reducible first | exact Grow.refl _ | assumption | refine Grow.drew ?_ | refine Grow.alloc ?_ _ | refine Grow.set ?_ (by first | exact Nat.le_refl _ | (simp; done) | (simp; omega) | omega) _ | exact And.left (by assumption) | refine Grow.trans ?_ (by assumption)))) (fun hHeld => ?_); clear hK K; (try simp only [Act.put, List.setIfInBounds_toArray, List.set_cons_zero, List.set_cons_succ]))
            (refine wpAnyH_ready (rs := [10]) (by kernel_rfl) (by simp) ?_; refine AllReadyH.cons rfl (fun K hK => ?_) AllReadyH.nil; go_simp; refine hK.out _ _ (by exact Grow.both (by repeat (with_reducible first | exact Grow.refl _ | assumption | refine Grow.drew ?_ | refine Grow.alloc ?_ _ | refine Grow.set ?_ (by first | exact Nat.le_refl _ | (simp; done) | (simp; omega) | omega) _ | exact And.left (by assumption) | refine Grow.trans ?_ (by assumption)))) (fun hHeld => ?_); clear hK K; (try simp only [Act.put, List.setIfInBounds_toArray, List.set_cons_zero, List.set_cons_succ]))
            ((refine tk 11 11 rfl rfl (v := ?_) ?_ ?_; rotate_left 1; (focus (intro w hSw; (try dsimp only at hSw); go_simp; (try with_reducible rfl); done)); all_goals (try simp only [Act.put, List.setIfInBounds_toArray, List.set_cons_zero, List.set_cons_succ])))
            refine wpAnyH_done (by kernel_rfl) ?_ _
            generalize hX : World.alloc w4 _ = w5
            have gZ : Grow W w5 := (hG.trans (gW2.trans gX)).trans (boxed1 hX).1
            clear hX
            have hc5 := gZ.same
            have hf5 := gZ.sameF
            go_wp2
            exact bodyPost_ret (v := .tuple #[.agg #[.int .i64 0, .int .i64 0, .string ⟨#[]⟩], .bool false]) (by simp [results, Tryz.results157, go_sem, hc5, k1, hs']) rfl (optE_none hno.out (by repeat (with_reducible first | exact Grow.refl _ | assumption | refine Grow.drew ?_ | refine Grow.alloc ?_ _ | refine Grow.set ?_ (by first | exact Nat.le_refl _ | (simp; done) | (simp; omega) | omega) _ | exact And.left (by assumption) | refine Grow.trans ?_ (by assumption))))
          · go_simp
            generalize hX : World.drew (World.alloc w2 _) = w3
            have gB : Grow w2 w3 := by rw [← hX]; exact ((Grow.refl _).alloc _).drew
            have sB : w2.heap.size < w3.heap.size := by rw [← hX]; simp
            obtain ⟨kB, fB⟩ := free_of (show w3.heap[w2.heap.size]? = some (.cells _ _ (0, 0)) by rw [← hX]; exact new_block _ _)
            have gX : Grow W2 w3 := g2.trans gB
            refine hK.out _ _ (Grow.both gX) (fun hHeld => ?_)
            clear hK K hX
            (try simp only [Act.put, List.setIfInBounds_toArray, List.set_cons_zero, List.set_cons_succ])
            (refine wpAnyH_ready (rs := [5]) (by kernel_rfl) (by simp) ?_; refine AllReadyH.cons rfl (fun K hK => ?_) AllReadyH.nil; go_simp; (go_at_call 173; refine (apply_none _ x hrd _ (hsl.grow (G1.trans (And.left (by assumption)))) (hr.grow (G2.trans (And.left (by assumption)))) hT hd.symm hdr HV.out).mono ?_; rintro e4 w4 ⟨k4, n4, s4, rfl, hb4⟩); refine hK.out _ _ (by exact Grow.both (by repeat (with_reducible first | exact Grow.refl _ | assumption | refine Grow.drew ?_ | refine Grow.alloc ?_ _ | refine Grow.set ?_ (by first | exact Nat.le_refl _ | (simp; done) | (simp; omega) | omega) _ | exact And.left (by assumption) | refine Grow.trans ?_ (by assumption)))) (fun hHeld => ?_); clear hK K; (try refine held_put 41 rfl ?_); (try simp only [Act.put, List.setIfInBounds_toArray, List.set_cons_zero, List.set_cons_succ]))
            have gY : Grow W2 w4 := gX.trans hb4
            have sz2 := g2.size
            have hc4 := hb4.same
            have hf4 := hb4.sameF
            have sB4 := Nat.lt_of_lt_of_le sB hb4.size
            ((refine tk 6 35 rfl rfl (v := ?_) ?_ ?_; rotate_left 1; (focus (intro w hSw; (try dsimp only at hSw); go_simp; (try with_reducible rfl); done)); all_goals (try simp only [Act.put, List.setIfInBounds_toArray, List.set_cons_zero, List.set_cons_succ])))
            ((refine tk 7 42 rfl rfl (v := ?_) ?_ ?_; rotate_left 1; (focus (intro w hSw; (try dsimp only at hSw); go_simp; (try with_reducible rfl); done)); all_goals (try simp only [Act.put, List.setIfInBounds_toArray, List.set_cons_zero, List.set_cons_succ])); (refine tk 8 43 rfl rfl (v := ?_) ?_ ?_; rotate_left 1; (focus (intro w hSw; (try dsimp only at hSw); go_simp; (try with_reducible rfl); done)); all_goals (try simp only [Act.put, List.setIfInBounds_toArray, List.set_cons_zero, List.set_cons_succ])))
            (refine wpAnyH_ready (rs := [10]) (by kernel_rfl) (by simp) ?_; refine AllReadyH.cons rfl (fun K hK => ?_) AllReadyH.nil; go_simp; refine hK.out _ _ (by exact Grow.both (by repeat (with_reducible first | exact Grow.refl _ | assumption | refine Grow.drew ?_ | refine Grow.alloc ?_ _ | refine Grow.set ?_ (by first | exact Nat.le_refl _ | (simp; done) | (simp; omega) | omega) _ | exact And.left (by assumption) | refine Grow.trans ?_ (by assumption)))) (fun hHeld => ?_); clear hK K; (try simp only [Act.put, List.setIfInBounds_toArray, List.set_cons_zero, List.set_cons_succ]))
            ((refine tk 11 11 rfl rfl (v := ?_) ?_ ?_; rotate_left 1; (focus (intro w hSw; (try dsimp only at hSw); go_simp; (try with_reducible rfl); done)); all_goals (try simp only [Act.put, List.setIfInBounds_toArray, List.set_cons_zero, List.set_cons_succ])))
            refine wpAnyH_done (by kernel_rfl) ?_ _
            generalize hX : World.setCell _ _ _ = w5
            have gZ : Grow W w5 := by
              rw [← hX]
              have := hG.trans (gW2.trans gY)
              have sz := (hG.trans (gW2.trans g2)).size
              repeat (first | exact this | refine Grow.set ?_ (by simp; omega) _)
            clear hX
            have hc5 := gZ.same
            have hf5 := gZ.sameF
            go_wp2
            exact bodyPost_ret (v := .tuple #[.agg #[.int .i64 0, .int .i64 0, .string ⟨#[]⟩], .bool false]) (by simp [results, Tryz.results157, go_sem, hc5, k1, hs']) rfl (optE_none hno.out (by repeat (with_reducible first | exact Grow.refl _ | assumption | refine Grow.drew ?_ | refine Grow.alloc ?_ _ | refine Grow.set ?_ (by first | exact Nat.le_refl _ | (simp; done) | (simp; omega) | omega) _ | exact And.left (by assumption) | refine Grow.trans ?_ (by assumption))))
        | some u =>
          have HV := Lib.hid hv
          obtain ⟨iv, hiv, hz0, hz1, hz2⟩ := info_parts info_val
          have hlen2 : (st.take f).length = f := by rw [List.length_take, HST.out]; omega
          have huok : okB u = true := applyV_ok (by rw [← HR.out] at hT; exact hT) (fun y hy => by simp [okVals] at ho; exact ho.1 y hy) hv
          have HFL := Lib.hid (show ∀ w7 : World, Flat Kd.val w7 (fun _ => False) (rows.take (f * 3) ++ [.int .i64 u.kind, .int .i64 u.n, .string u.s]) (st.take f ++ [u]) from fun w7 => Flat.mono (fun _ h => h) (fun _ h => h.elim) (Flat.append (k := Kd.val) (w := wr) (S := fun _ => False) (cs := [.int .i64 u.kind, .int .i64 u.n, .string u.s]) (x := u) ⟨rfl, okB_size huok⟩ (Flat.take f hf)))
          have HR2 := Lib.hid (show runV row (e.take (k + 1)) = some (st.take f ++ [u]) by rw [HA.out, hrun.out, stepV, Option.bind_some, HST.out, hd, Int.toNat_natCast, show l - d = f by omega, hv]; rfl)
          have HX2 := Lib.hid (show exprRun lb (e.take (k + 1)) = some ((st.take f ++ [u]).length : Int) by
            rw [exprRun_take hx.out, hxr.out, exprStep, Option.bind_some, if_pos ⟨hT, by rw [HST.out, hd]; omega⟩, HST.out, hd, List.length_append, hlen2]; simp; omega)
          have HOK2 := Lib.hid (show ∀ v ∈ st.take f ++ [u], okB v = true from fun v hv' => by
            rcases List.mem_append.mp hv' with h | h
            · exact hok v (List.mem_of_mem_take h)
            · simp at h; subst h
              exact huok)
          clear hv huok
          refine wp_region_held_drew (S := (fun w' => Grow W2 w' ∧ Same W2 w')) (by kernel_rfl) (by exact Grow.both (by repeat (with_reducible first | exact Grow.refl _ | assumption | refine Grow.drew ?_ | refine Grow.alloc ?_ _ | refine Grow.set ?_ (by first | exact Nat.le_refl _ | (simp; done) | (simp; omega) | omega) _ | exact And.left (by assumption) | refine Grow.trans ?_ (by assumption)))) (fun hHeld => ?_)
          ((refine tk 0 36 rfl rfl (v := ?_) ?_ ?_; rotate_left 1; (focus (intro w hSw; (try dsimp only at hSw); go_simp; (try with_reducible rfl); done)); all_goals (try simp only [Act.put, List.setIfInBounds_toArray, List.set_cons_zero, List.set_cons_succ])); (refine tk 1 37 rfl rfl (v := ?_) ?_ ?_; rotate_left 1; (focus (intro w hSw; (try dsimp only at hSw); go_simp; (try with_reducible rfl); done)); all_goals (try simp only [Act.put, List.setIfInBounds_toArray, List.set_cons_zero, List.set_cons_succ])); (refine tk 2 38 rfl rfl (v := ?_) ?_ ?_; rotate_left 1; (focus (intro w hSw; (try dsimp only at hSw); go_simp; (try with_reducible rfl); done)); all_goals (try simp only [Act.put, List.setIfInBounds_toArray, List.set_cons_zero, List.set_cons_succ])); (refine tk 3 39 rfl rfl (v := ?_) ?_ ?_; rotate_left 1; (focus (intro w hSw; (try dsimp only at hSw); go_simp; (try with_reducible rfl); done)); all_goals (try simp only [Act.put, List.setIfInBounds_toArray, List.set_cons_zero, List.set_cons_succ])); (refine tk 4 40 rfl rfl (v := ?_) ?_ ?_; rotate_left 1; (focus (intro w hSw; (try dsimp only at hSw); go_simp; (try with_reducible rfl); done)); all_goals (try simp only [Act.put, List.setIfInBounds_toArray, List.set_cons_zero, List.set_cons_succ])))
          refine wpAnyH_ready (rs := [5, 9]) (by kernel_rfl) (by simp) ?_
          refine AllReadyH.cons rfl (fun K hK => ?_) (AllReadyH.cons rfl (fun K hK => ?_) AllReadyH.nil)
          · go_simp
            (go_at_call 173; refine (apply_some _ x hrd _ (hsl.grow (G1.trans (And.left (by assumption)))) (hr.grow (G2.trans (And.left (by assumption)))) hT hd.symm hdr HV.out).mono ?_; rintro e4 w4 ⟨rfl, hb4⟩)
            have gX : Grow W2 w4 := GB.trans hb4
            refine hK.out _ _ (Grow.both gX) (fun hHeld => ?_)
            clear hK K
            (try simp only [Act.put, List.setIfInBounds_toArray, List.set_cons_zero, List.set_cons_succ])
            ((refine tk 6 35 rfl rfl (v := ?_) ?_ ?_; rotate_left 1; (focus (intro w hSw; (try dsimp only at hSw); go_simp; (try with_reducible rfl); done)); all_goals (try simp only [Act.put, List.setIfInBounds_toArray, List.set_cons_zero, List.set_cons_succ])))
            ((refine tk 7 42 rfl rfl (v := ?_) ?_ ?_; rotate_left 1; (focus (intro w hSw; (try dsimp only at hSw); go_simp; (try with_reducible rfl); done)); all_goals (try simp only [Act.put, List.setIfInBounds_toArray, List.set_cons_zero, List.set_cons_succ])); (refine tk 8 43 rfl rfl (v := ?_) ?_ ?_; rotate_left 1; (focus (intro w hSw; (try dsimp only at hSw); go_simp; (try with_reducible rfl); done)); all_goals (try simp only [Act.put, List.setIfInBounds_toArray, List.set_cons_zero, List.set_cons_succ])))
            (refine wpAnyH_ready (rs := [9]) (by kernel_rfl) (by simp) ?_; refine AllReadyH.cons rfl (fun K hK => ?_) AllReadyH.nil; go_simp; refine hK.out _ _ (by exact Grow.both (by repeat (with_reducible first | exact Grow.refl _ | assumption | refine Grow.drew ?_ | refine Grow.alloc ?_ _ | refine Grow.set ?_ (by first | exact Nat.le_refl _ | (simp; done) | (simp; omega) | omega) _ | exact And.left (by assumption) | refine Grow.trans ?_ (by assumption)))) (fun hHeld => ?_); clear hK K; (try simp only [Act.put, List.setIfInBounds_toArray, List.set_cons_zero, List.set_cons_succ]))
            (refine wpAnyH_ready (rs := [10]) (by kernel_rfl) (by simp) ?_; refine AllReadyH.cons rfl (fun K hK => ?_) AllReadyH.nil; go_simp; refine hK.out _ _ (by exact Grow.both (by repeat (with_reducible first | exact Grow.refl _ | assumption | refine Grow.drew ?_ | refine Grow.alloc ?_ _ | refine Grow.set ?_ (by first | exact Nat.le_refl _ | (simp; done) | (simp; omega) | omega) _ | exact And.left (by assumption) | refine Grow.trans ?_ (by assumption)))) (fun hHeld => ?_); clear hK K; (try simp only [Act.put, List.setIfInBounds_toArray, List.set_cons_zero, List.set_cons_succ]))
            ((refine tk 11 11 rfl rfl (v := ?_) ?_ ?_; rotate_left 1; (focus (intro w hSw; (try dsimp only at hSw); go_simp; (try with_reducible rfl); done)); all_goals (try simp only [Act.put, List.setIfInBounds_toArray, List.set_cons_zero, List.set_cons_succ])))
            refine wpAnyH_done (by kernel_rfl) ?_ _
            generalize hX : World.alloc w4 _ = w5
            obtain ⟨g45, s45, b45⟩ := boxedB hX
            have gZ : Grow W w5 := (hG.trans (gW2.trans gX)).trans g45
            have gR : Grow wr w5 := (gW2.trans gX).trans g45
            obtain ⟨kV, fV⟩ := free_of b45
            clear hX
            have hP := own_base hown
            have hW5 := gZ.size
            have own5 := own_grow hown gR
            have hL5 : IntKind.i64.wrap (f : Int) = f := IntWalk.i64_in _ (by omega)
            go_wp2
            refine wp_region_held_drew (S := (fun w' => Grow W w' ∧ Same W w')) (by kernel_rfl) (by exact Grow.both (by repeat (with_reducible first | exact Grow.refl _ | assumption | refine Grow.drew ?_ | refine Grow.alloc ?_ _ | refine Grow.set ?_ (by first | exact Nat.le_refl _ | (simp; done) | (simp; omega) | omega) _ | exact And.left (by assumption) | refine Grow.trans ?_ (by assumption)))) (fun hHeld => ?_)
            ((refine tk 0 47 rfl rfl (v := ?_) ?_ ?_; rotate_left 1; (focus (intro w hSw; (try dsimp only at hSw); go_simp; (try with_reducible rfl); done)); all_goals (try simp only [Act.put, List.setIfInBounds_toArray, List.set_cons_zero, List.set_cons_succ])); (refine tk 1 48 rfl rfl (v := ?_) ?_ ?_; rotate_left 1; (focus (intro w hSw; (try dsimp only at hSw); go_simp; (try with_reducible rfl); done)); all_goals (try simp only [Act.put, List.setIfInBounds_toArray, List.set_cons_zero, List.set_cons_succ])); (refine tk 2 49 rfl rfl (v := ?_) ?_ ?_; rotate_left 1; (focus (intro w hSw; (try dsimp only at hSw); go_simp; (try with_reducible rfl); done)); all_goals (try simp only [Act.put, List.setIfInBounds_toArray, List.set_cons_zero, List.set_cons_succ])))
            (refine wpAnyH_ready (rs := [3]) (by kernel_rfl) (by simp) ?_; refine AllReadyH.cons rfl (fun K hK => ?_) AllReadyH.nil; go_simp; refine hK.out _ _ (by exact Grow.both (by repeat (with_reducible first | exact Grow.refl _ | assumption | refine Grow.drew ?_ | refine Grow.alloc ?_ _ | refine Grow.set ?_ (by first | exact Nat.le_refl _ | (simp; done) | (simp; omega) | omega) _ | exact And.left (by assumption) | refine Grow.trans ?_ (by assumption)))) (fun hHeld => ?_); clear hK K; (try simp only [Act.put, List.setIfInBounds_toArray, List.set_cons_zero, List.set_cons_succ]))
            (refine wpAnyH_ready (rs := [4]) (by kernel_rfl) (by simp) ?_; refine AllReadyH.cons rfl (fun K hK => ?_) AllReadyH.nil; go_simp; refine hK.out _ _ (by exact Grow.both (by repeat (with_reducible first | exact Grow.refl _ | assumption | refine Grow.drew ?_ | refine Grow.alloc ?_ _ | refine Grow.set ?_ (by first | exact Nat.le_refl _ | (simp; done) | (simp; omega) | omega) _ | exact And.left (by assumption) | refine Grow.trans ?_ (by assumption)))) (fun hHeld => ?_); clear hK K; (try simp only [Act.put, List.setIfInBounds_toArray, List.set_cons_zero, List.set_cons_succ]))
            generalize hY : World.alloc _ _ = w6
            obtain ⟨gY6, sY6, bY6⟩ := boxedB hY
            replace gY6 : Grow w5 w6 := gY6
            have gW6 : Grow W w6 := gZ.trans gY6
            have own6 := own_take (own_grow own5 gY6) hfl
            refine wpAnyH_ready (rs := [5]) (by kernel_rfl) (by simp) ?_
            refine AllReadyH.cons rfl (fun K hK => ?_) AllReadyH.nil
            refine step_append_lies _ (by rfl) (.tmp 49) (.tmp 51) 45 (by rfl) W.heap.size 50 iv _ 3 32 Tryz.underlying45 hiv hz0 hz1 hz2 (by rfl) (by decide) _ f (rows.take (f * 3)) (by rfl) own6 ⟨w5.heap.size, 0, none⟩ 1 1 [.int .i64 u.kind, .int .i64 u.n, .string u.s] (by rfl) (by rfl) (World.news_of_block bY6) (fun x hx => by simp at hx; rcases hx with rfl | rfl | rfl <;> rfl) (by decide) (by unfold maxLen; omega) (by omega) gW6.size _ rfl ?_
            intro g cap w7 hown7 hgrow7 hat hlt7
            have gW7 : Grow W w7 := Below.grown gW6.drew hgrow7 gW6.size (fun q hq => by simp [Value.ownBlock] at hq; subst hq; exact hP)
            refine hK.out _ _ (Grow.both gW7) (fun hHeld => ?_)
            clear hK K
            (try simp only [Act.put, List.setIfInBounds_toArray, List.set_cons_zero, List.set_cons_succ])
            ((refine tk 6 6 rfl rfl (v := ?_) ?_ ?_; rotate_left 1; (focus (intro w hSw; (try dsimp only at hSw); go_simp; (try with_reducible rfl); done)); all_goals (try simp only [Act.put, List.setIfInBounds_toArray, List.set_cons_zero, List.set_cons_succ])))
            refine wpAnyH_done (by kernel_rfl) ?_ _
            go_wp2
            go_roundw
            case rel => exact ⟨k + 1, st.take f ++ [u], g, f + 1, cap, _, by omega, by omega, by go_num, rfl, hown7, HFL.out w7, by rw [List.length_append, hlen2]; rfl, HR2.out, HX2.out, HOK2.out, gW7⟩
            case measure => simp [intOf]; omega
          · go_simp
            generalize hX : World.drew (World.alloc w2 _) = w3
            have gB : Grow w2 w3 := by rw [← hX]; exact ((Grow.refl _).alloc _).drew
            have sB : w2.heap.size < w3.heap.size := by rw [← hX]; simp
            have bB3 : w3.heap[w2.heap.size]? = some (.cells #[.int .i64 0, .int .i64 0, .string ⟨#[]⟩] 50 (0, 0)) := by rw [← hX]; exact new_block _ _
            obtain ⟨kB, fB⟩ := free_of bB3
            have gX : Grow W2 w3 := g2.trans gB
            refine hK.out _ _ (Grow.both gX) (fun hHeld => ?_)
            clear hK K hX
            (try simp only [Act.put, List.setIfInBounds_toArray, List.set_cons_zero, List.set_cons_succ])
            (refine wpAnyH_ready (rs := [5]) (by kernel_rfl) (by simp) ?_; refine AllReadyH.cons rfl (fun K hK => ?_) AllReadyH.nil; go_simp; (go_at_call 173; refine (apply_some _ x hrd _ (hsl.grow (G1.trans (And.left (by assumption)))) (hr.grow (G2.trans (And.left (by assumption)))) hT hd.symm hdr HV.out).mono ?_; rintro e4 w4 ⟨rfl, hb4⟩); refine hK.out _ _ (by exact Grow.both (by repeat (with_reducible first | exact Grow.refl _ | assumption | refine Grow.drew ?_ | refine Grow.alloc ?_ _ | refine Grow.set ?_ (by first | exact Nat.le_refl _ | (simp; done) | (simp; omega) | omega) _ | exact And.left (by assumption) | refine Grow.trans ?_ (by assumption)))) (fun hHeld => ?_); clear hK K; (try refine held_put 41 rfl ?_); (try simp only [Act.put, List.setIfInBounds_toArray, List.set_cons_zero, List.set_cons_succ]))
            have gY : Grow W2 w4 := gX.trans hb4
            have sz2 := g2.size
            have hc4 := hb4.same
            have hf4 := hb4.sameF
            have sB4 := Nat.lt_of_lt_of_le sB hb4.size
            ((refine tk 6 35 rfl rfl (v := ?_) ?_ ?_; rotate_left 1; (focus (intro w hSw; (try dsimp only at hSw); go_simp; (try with_reducible rfl); done)); all_goals (try simp only [Act.put, List.setIfInBounds_toArray, List.set_cons_zero, List.set_cons_succ])))
            ((refine tk 7 42 rfl rfl (v := ?_) ?_ ?_; rotate_left 1; (focus (intro w hSw; (try dsimp only at hSw); go_simp; (try with_reducible rfl); done)); all_goals (try simp only [Act.put, List.setIfInBounds_toArray, List.set_cons_zero, List.set_cons_succ])); (refine tk 8 43 rfl rfl (v := ?_) ?_ ?_; rotate_left 1; (focus (intro w hSw; (try dsimp only at hSw); go_simp; (try with_reducible rfl); done)); all_goals (try simp only [Act.put, List.setIfInBounds_toArray, List.set_cons_zero, List.set_cons_succ])))
            (refine wpAnyH_ready (rs := [10]) (by kernel_rfl) (by simp) ?_; refine AllReadyH.cons rfl (fun K hK => ?_) AllReadyH.nil; go_simp; refine hK.out _ _ (by exact Grow.both (by repeat (with_reducible first | exact Grow.refl _ | assumption | refine Grow.drew ?_ | refine Grow.alloc ?_ _ | refine Grow.set ?_ (by first | exact Nat.le_refl _ | (simp; done) | (simp; omega) | omega) _ | exact And.left (by assumption) | refine Grow.trans ?_ (by assumption)))) (fun hHeld => ?_); clear hK K; (try simp only [Act.put, List.setIfInBounds_toArray, List.set_cons_zero, List.set_cons_succ]))
            ((refine tk 11 11 rfl rfl (v := ?_) ?_ ?_; rotate_left 1; (focus (intro w hSw; (try dsimp only at hSw); go_simp; (try with_reducible rfl); done)); all_goals (try simp only [Act.put, List.setIfInBounds_toArray, List.set_cons_zero, List.set_cons_succ])))
            refine wpAnyH_done (by kernel_rfl) ?_ _
            have bV := setL_own ((hb4.block sB).trans bB3) 0 [.int .i64 u.kind, .int .i64 u.n, .string u.s]
            have gR0 : Grow wr (setL w4 w2.heap.size 0 [.int .i64 u.kind, .int .i64 u.n, .string u.s]) := setL_grow (gW2.trans gY) (Nat.le_trans gW2.size sz2) _ _
            have sV0 : w2.heap.size < (setL w4 w2.heap.size 0 [.int .i64 u.kind, .int .i64 u.n, .string u.s]).heap.size := by rw [setL_size]; exact sB4
            have gZ0 : Grow W (setL w4 w2.heap.size 0 [.int .i64 u.kind, .int .i64 u.n, .string u.s]) := setL_grow (hG.trans (gW2.trans gY)) (Nat.le_trans (hG.trans gW2).size sz2) _ _
            simp only [setL, Nat.reduceAdd] at bV gR0 sV0 gZ0
            generalize hX : World.setCell _ _ _ = w5 at bV gR0 sV0 gZ0 ⊢
            have gZ := gZ0
            have gR := gR0
            obtain ⟨kV, fV⟩ := free_of (show w5.heap[w2.heap.size]? = some (.cells #[.int .i64 u.kind, .int .i64 u.n, .string u.s] _ (0, 0)) from bV)
            clear hX
            have hP := own_base hown
            have hW5 := gZ.size
            have own5 := own_grow hown gR
            have hL5 : IntKind.i64.wrap (f : Int) = f := IntWalk.i64_in _ (by omega)
            go_wp2
            refine wp_region_held_drew (S := (fun w' => Grow W w' ∧ Same W w')) (by kernel_rfl) (by exact Grow.both (by repeat (with_reducible first | exact Grow.refl _ | assumption | refine Grow.drew ?_ | refine Grow.alloc ?_ _ | refine Grow.set ?_ (by first | exact Nat.le_refl _ | (simp; done) | (simp; omega) | omega) _ | exact And.left (by assumption) | refine Grow.trans ?_ (by assumption)))) (fun hHeld => ?_)
            ((refine tk 0 47 rfl rfl (v := ?_) ?_ ?_; rotate_left 1; (focus (intro w hSw; (try dsimp only at hSw); go_simp; (try with_reducible rfl); done)); all_goals (try simp only [Act.put, List.setIfInBounds_toArray, List.set_cons_zero, List.set_cons_succ])); (refine tk 1 48 rfl rfl (v := ?_) ?_ ?_; rotate_left 1; (focus (intro w hSw; (try dsimp only at hSw); go_simp; (try with_reducible rfl); done)); all_goals (try simp only [Act.put, List.setIfInBounds_toArray, List.set_cons_zero, List.set_cons_succ])); (refine tk 2 49 rfl rfl (v := ?_) ?_ ?_; rotate_left 1; (focus (intro w hSw; (try dsimp only at hSw); go_simp; (try with_reducible rfl); done)); all_goals (try simp only [Act.put, List.setIfInBounds_toArray, List.set_cons_zero, List.set_cons_succ])))
            (refine wpAnyH_ready (rs := [3]) (by kernel_rfl) (by simp) ?_; refine AllReadyH.cons rfl (fun K hK => ?_) AllReadyH.nil; go_simp; refine hK.out _ _ (by exact Grow.both (by repeat (with_reducible first | exact Grow.refl _ | assumption | refine Grow.drew ?_ | refine Grow.alloc ?_ _ | refine Grow.set ?_ (by first | exact Nat.le_refl _ | (simp; done) | (simp; omega) | omega) _ | exact And.left (by assumption) | refine Grow.trans ?_ (by assumption)))) (fun hHeld => ?_); clear hK K; (try simp only [Act.put, List.setIfInBounds_toArray, List.set_cons_zero, List.set_cons_succ]))
            (refine wpAnyH_ready (rs := [4]) (by kernel_rfl) (by simp) ?_; refine AllReadyH.cons rfl (fun K hK => ?_) AllReadyH.nil; go_simp; refine hK.out _ _ (by exact Grow.both (by repeat (with_reducible first | exact Grow.refl _ | assumption | refine Grow.drew ?_ | refine Grow.alloc ?_ _ | refine Grow.set ?_ (by first | exact Nat.le_refl _ | (simp; done) | (simp; omega) | omega) _ | exact And.left (by assumption) | refine Grow.trans ?_ (by assumption)))) (fun hHeld => ?_); clear hK K; (try simp only [Act.put, List.setIfInBounds_toArray, List.set_cons_zero, List.set_cons_succ]))
            generalize hY : World.alloc _ _ = w6
            obtain ⟨gY6, sY6, bY6⟩ := boxedB hY
            replace gY6 : Grow w5 w6 := gY6
            have gW6 : Grow W w6 := gZ.trans gY6
            have own6 := own_take (own_grow own5 gY6) hfl
            refine wpAnyH_ready (rs := [5]) (by kernel_rfl) (by simp) ?_
            refine AllReadyH.cons rfl (fun K hK => ?_) AllReadyH.nil
            refine step_append_lies _ (by rfl) (.tmp 49) (.tmp 51) 45 (by rfl) W.heap.size 50 iv _ 3 32 Tryz.underlying45 hiv hz0 hz1 hz2 (by rfl) (by decide) _ f (rows.take (f * 3)) (by rfl) own6 ⟨w5.heap.size, 0, none⟩ 1 1 [.int .i64 u.kind, .int .i64 u.n, .string u.s] (by rfl) (by rfl) (World.news_of_block bY6) (fun x hx => by simp at hx; rcases hx with rfl | rfl | rfl <;> rfl) (by decide) (by unfold maxLen; omega) (by omega) gW6.size _ rfl ?_
            intro g cap w7 hown7 hgrow7 hat hlt7
            have gW7 : Grow W w7 := Below.grown gW6.drew hgrow7 gW6.size (fun q hq => by simp [Value.ownBlock] at hq; subst hq; exact hP)
            refine hK.out _ _ (Grow.both gW7) (fun hHeld => ?_)
            clear hK K
            (try simp only [Act.put, List.setIfInBounds_toArray, List.set_cons_zero, List.set_cons_succ])
            ((refine tk 6 6 rfl rfl (v := ?_) ?_ ?_; rotate_left 1; (focus (intro w hSw; (try dsimp only at hSw); go_simp; (try with_reducible rfl); done)); all_goals (try simp only [Act.put, List.setIfInBounds_toArray, List.set_cons_zero, List.set_cons_succ])))
            refine wpAnyH_done (by kernel_rfl) ?_ _
            go_wp2
            go_roundw
            case rel => exact ⟨k + 1, st.take f ++ [u], g, f + 1, cap, _, by omega, by omega, by go_num, rfl, hown7, HFL.out w7, by rw [List.length_append, hlen2]; rfl, HR2.out, HX2.out, HOK2.out, gW7⟩
            case measure => simp [intOf]; omega
      · replace hcf : ¬ c = f := fun h => hcf h.symm
        have HST := Lib.hid hst
        have HW := Lib.hid hw
        have HLE := Lib.hid hle
        clear hst hw hle
        have G1 : Grow wr W2 := gW2
        have G2 : Grow w W2 := hg.trans (hG.trans gW2)
        cases hv : applyV x (st.drop f) row with
        | none =>
          have HV := Lib.hid hv
          have hno := Lib.hid (show evL e row = none by
            rw [evL, ho, HR.out, HXL.out, Bool.and_self, if_pos rfl, runV_none (k := k + 1) (by rw [HA.out, hrun.out, stepV, Option.bind_some, HST.out, hd, Int.toNat_natCast, show l - d = f by omega, hv]; rfl)]; rfl)
          clear hv
          refine wp_region_held_drew (S := (fun w' => Grow W2 w' ∧ Same W2 w')) (by kernel_rfl) (by exact Grow.both (by repeat (with_reducible first | exact Grow.refl _ | assumption | refine Grow.drew ?_ | refine Grow.alloc ?_ _ | refine Grow.set ?_ (by first | exact Nat.le_refl _ | (simp; done) | (simp; omega) | omega) _ | exact And.left (by assumption) | refine Grow.trans ?_ (by assumption)))) (fun hHeld => ?_)
          ((refine tk 0 36 rfl rfl (v := ?_) ?_ ?_; rotate_left 1; (focus (intro w hSw; (try dsimp only at hSw); go_simp; (try with_reducible rfl); done)); all_goals (try simp only [Act.put, List.setIfInBounds_toArray, List.set_cons_zero, List.set_cons_succ])); (refine tk 1 37 rfl rfl (v := ?_) ?_ ?_; rotate_left 1; (focus (intro w hSw; (try dsimp only at hSw); go_simp; (try with_reducible rfl); done)); all_goals (try simp only [Act.put, List.setIfInBounds_toArray, List.set_cons_zero, List.set_cons_succ])); (refine tk 2 38 rfl rfl (v := ?_) ?_ ?_; rotate_left 1; (focus (intro w hSw; (try dsimp only at hSw); go_simp; (try with_reducible rfl); done)); all_goals (try simp only [Act.put, List.setIfInBounds_toArray, List.set_cons_zero, List.set_cons_succ])); (refine tk 3 39 rfl rfl (v := ?_) ?_ ?_; rotate_left 1; (focus (intro w hSw; (try dsimp only at hSw); go_simp; (try with_reducible rfl); done)); all_goals (try simp only [Act.put, List.setIfInBounds_toArray, List.set_cons_zero, List.set_cons_succ])); (refine tk 4 40 rfl rfl (v := ?_) ?_ ?_; rotate_left 1; (focus (intro w hSw; (try dsimp only at hSw); go_simp; (try with_reducible rfl); done)); all_goals (try simp only [Act.put, List.setIfInBounds_toArray, List.set_cons_zero, List.set_cons_succ])))
          refine wpAnyH_ready (rs := [5, 9]) (by kernel_rfl) (by simp) ?_
          refine AllReadyH.cons rfl (fun K hK => ?_) (AllReadyH.cons rfl (fun K hK => ?_) AllReadyH.nil)
          · go_simp
            (go_at_call 173; refine (apply_none _ x hrd _ (hsl.grow (G1.trans (And.left (by assumption)))) (hr.grow (G2.trans (And.left (by assumption)))) hT hd.symm hdr HV.out).mono ?_; rintro e4 w4 ⟨k4, n4, s4, rfl, hb4⟩)
            have gX : Grow W2 w4 := GB.trans hb4
            refine hK.out _ _ (Grow.both gX) (fun hHeld => ?_)
            clear hK K
            (try simp only [Act.put, List.setIfInBounds_toArray, List.set_cons_zero, List.set_cons_succ])
            ((refine tk 6 35 rfl rfl (v := ?_) ?_ ?_; rotate_left 1; (focus (intro w hSw; (try dsimp only at hSw); go_simp; (try with_reducible rfl); done)); all_goals (try simp only [Act.put, List.setIfInBounds_toArray, List.set_cons_zero, List.set_cons_succ])))
            ((refine tk 7 42 rfl rfl (v := ?_) ?_ ?_; rotate_left 1; (focus (intro w hSw; (try dsimp only at hSw); go_simp; (try with_reducible rfl); done)); all_goals (try simp only [Act.put, List.setIfInBounds_toArray, List.set_cons_zero, List.set_cons_succ])); (refine tk 8 43 rfl rfl (v := ?_) ?_ ?_; rotate_left 1; (focus (intro w hSw; (try dsimp only at hSw); go_simp; (try with_reducible rfl); done)); all_goals (try simp only [Act.put, List.setIfInBounds_toArray, List.set_cons_zero, List.set_cons_succ])))
            (refine wpAnyH_ready (rs := [9]) (by kernel_rfl) (by simp) ?_; refine AllReadyH.cons rfl (fun K hK => ?_) AllReadyH.nil; go_simp; refine hK.out _ _ (by exact Grow.both (by repeat (with_reducible first | exact Grow.refl _ | assumption | refine Grow.drew ?_ | refine Grow.alloc ?_ _ | refine Grow.set ?_ (by first | exact Nat.le_refl _ | (simp; done) | (simp; omega) | omega) _ | exact And.left (by assumption) | refine Grow.trans ?_ (by assumption)))) (fun hHeld => ?_); clear hK K; (try simp only [Act.put, List.setIfInBounds_toArray, List.set_cons_zero, List.set_cons_succ]))
            (refine wpAnyH_ready (rs := [10]) (by kernel_rfl) (by simp) ?_; refine AllReadyH.cons rfl (fun K hK => ?_) AllReadyH.nil; go_simp; refine hK.out _ _ (by exact Grow.both (by repeat (with_reducible first | exact Grow.refl _ | assumption | refine Grow.drew ?_ | refine Grow.alloc ?_ _ | refine Grow.set ?_ (by first | exact Nat.le_refl _ | (simp; done) | (simp; omega) | omega) _ | exact And.left (by assumption) | refine Grow.trans ?_ (by assumption)))) (fun hHeld => ?_); clear hK K; (try simp only [Act.put, List.setIfInBounds_toArray, List.set_cons_zero, List.set_cons_succ]))
            ((refine tk 11 11 rfl rfl (v := ?_) ?_ ?_; rotate_left 1; (focus (intro w hSw; (try dsimp only at hSw); go_simp; (try with_reducible rfl); done)); all_goals (try simp only [Act.put, List.setIfInBounds_toArray, List.set_cons_zero, List.set_cons_succ])))
            refine wpAnyH_done (by kernel_rfl) ?_ _
            generalize hX : World.alloc w4 _ = w5
            have gZ : Grow W w5 := (hG.trans (gW2.trans gX)).trans (boxed1 hX).1
            clear hX
            have hc5 := gZ.same
            have hf5 := gZ.sameF
            go_wp2
            exact bodyPost_ret (v := .tuple #[.agg #[.int .i64 0, .int .i64 0, .string ⟨#[]⟩], .bool false]) (by simp [results, Tryz.results157, go_sem, hc5, k1, hs']) rfl (optE_none hno.out (by repeat (with_reducible first | exact Grow.refl _ | assumption | refine Grow.drew ?_ | refine Grow.alloc ?_ _ | refine Grow.set ?_ (by first | exact Nat.le_refl _ | (simp; done) | (simp; omega) | omega) _ | exact And.left (by assumption) | refine Grow.trans ?_ (by assumption))))
          · go_simp
            generalize hX : World.drew (World.alloc w2 _) = w3
            have gB : Grow w2 w3 := by rw [← hX]; exact ((Grow.refl _).alloc _).drew
            have sB : w2.heap.size < w3.heap.size := by rw [← hX]; simp
            obtain ⟨kB, fB⟩ := free_of (show w3.heap[w2.heap.size]? = some (.cells _ _ (0, 0)) by rw [← hX]; exact new_block _ _)
            have gX : Grow W2 w3 := g2.trans gB
            refine hK.out _ _ (Grow.both gX) (fun hHeld => ?_)
            clear hK K hX
            (try simp only [Act.put, List.setIfInBounds_toArray, List.set_cons_zero, List.set_cons_succ])
            (refine wpAnyH_ready (rs := [5]) (by kernel_rfl) (by simp) ?_; refine AllReadyH.cons rfl (fun K hK => ?_) AllReadyH.nil; go_simp; (go_at_call 173; refine (apply_none _ x hrd _ (hsl.grow (G1.trans (And.left (by assumption)))) (hr.grow (G2.trans (And.left (by assumption)))) hT hd.symm hdr HV.out).mono ?_; rintro e4 w4 ⟨k4, n4, s4, rfl, hb4⟩); refine hK.out _ _ (by exact Grow.both (by repeat (with_reducible first | exact Grow.refl _ | assumption | refine Grow.drew ?_ | refine Grow.alloc ?_ _ | refine Grow.set ?_ (by first | exact Nat.le_refl _ | (simp; done) | (simp; omega) | omega) _ | exact And.left (by assumption) | refine Grow.trans ?_ (by assumption)))) (fun hHeld => ?_); clear hK K; (try refine held_put 41 rfl ?_); (try simp only [Act.put, List.setIfInBounds_toArray, List.set_cons_zero, List.set_cons_succ]))
            have gY : Grow W2 w4 := gX.trans hb4
            have sz2 := g2.size
            have hc4 := hb4.same
            have hf4 := hb4.sameF
            have sB4 := Nat.lt_of_lt_of_le sB hb4.size
            ((refine tk 6 35 rfl rfl (v := ?_) ?_ ?_; rotate_left 1; (focus (intro w hSw; (try dsimp only at hSw); go_simp; (try with_reducible rfl); done)); all_goals (try simp only [Act.put, List.setIfInBounds_toArray, List.set_cons_zero, List.set_cons_succ])))
            ((refine tk 7 42 rfl rfl (v := ?_) ?_ ?_; rotate_left 1; (focus (intro w hSw; (try dsimp only at hSw); go_simp; (try with_reducible rfl); done)); all_goals (try simp only [Act.put, List.setIfInBounds_toArray, List.set_cons_zero, List.set_cons_succ])); (refine tk 8 43 rfl rfl (v := ?_) ?_ ?_; rotate_left 1; (focus (intro w hSw; (try dsimp only at hSw); go_simp; (try with_reducible rfl); done)); all_goals (try simp only [Act.put, List.setIfInBounds_toArray, List.set_cons_zero, List.set_cons_succ])))
            (refine wpAnyH_ready (rs := [10]) (by kernel_rfl) (by simp) ?_; refine AllReadyH.cons rfl (fun K hK => ?_) AllReadyH.nil; go_simp; refine hK.out _ _ (by exact Grow.both (by repeat (with_reducible first | exact Grow.refl _ | assumption | refine Grow.drew ?_ | refine Grow.alloc ?_ _ | refine Grow.set ?_ (by first | exact Nat.le_refl _ | (simp; done) | (simp; omega) | omega) _ | exact And.left (by assumption) | refine Grow.trans ?_ (by assumption)))) (fun hHeld => ?_); clear hK K; (try simp only [Act.put, List.setIfInBounds_toArray, List.set_cons_zero, List.set_cons_succ]))
            ((refine tk 11 11 rfl rfl (v := ?_) ?_ ?_; rotate_left 1; (focus (intro w hSw; (try dsimp only at hSw); go_simp; (try with_reducible rfl); done)); all_goals (try simp only [Act.put, List.setIfInBounds_toArray, List.set_cons_zero, List.set_cons_succ])))
            refine wpAnyH_done (by kernel_rfl) ?_ _
            generalize hX : World.setCell _ _ _ = w5
            have gZ : Grow W w5 := by
              rw [← hX]
              have := hG.trans (gW2.trans gY)
              have sz := (hG.trans (gW2.trans g2)).size
              repeat (first | exact this | refine Grow.set ?_ (by simp; omega) _)
            clear hX
            have hc5 := gZ.same
            have hf5 := gZ.sameF
            go_wp2
            exact bodyPost_ret (v := .tuple #[.agg #[.int .i64 0, .int .i64 0, .string ⟨#[]⟩], .bool false]) (by simp [results, Tryz.results157, go_sem, hc5, k1, hs']) rfl (optE_none hno.out (by repeat (with_reducible first | exact Grow.refl _ | assumption | refine Grow.drew ?_ | refine Grow.alloc ?_ _ | refine Grow.set ?_ (by first | exact Nat.le_refl _ | (simp; done) | (simp; omega) | omega) _ | exact And.left (by assumption) | refine Grow.trans ?_ (by assumption))))
        | some u =>
          have HV := Lib.hid hv
          obtain ⟨iv, hiv, hz0, hz1, hz2⟩ := info_parts info_val
          have hlen2 : (st.take f).length = f := by rw [List.length_take, HST.out]; omega
          have huok : okB u = true := applyV_ok (by rw [← HR.out] at hT; exact hT) (fun y hy => by simp [okVals] at ho; exact ho.1 y hy) hv
          have HFL := Lib.hid (show ∀ w7 : World, Flat Kd.val w7 (fun _ => False) (rows.take (f * 3) ++ [.int .i64 u.kind, .int .i64 u.n, .string u.s]) (st.take f ++ [u]) from fun w7 => Flat.mono (fun _ h => h) (fun _ h => h.elim) (Flat.append (k := Kd.val) (w := wr) (S := fun _ => False) (cs := [.int .i64 u.kind, .int .i64 u.n, .string u.s]) (x := u) ⟨rfl, okB_size huok⟩ (Flat.take f hf)))
          have HR2 := Lib.hid (show runV row (e.take (k + 1)) = some (st.take f ++ [u]) by rw [HA.out, hrun.out, stepV, Option.bind_some, HST.out, hd, Int.toNat_natCast, show l - d = f by omega, hv]; rfl)
          have HX2 := Lib.hid (show exprRun lb (e.take (k + 1)) = some ((st.take f ++ [u]).length : Int) by
            rw [exprRun_take hx.out, hxr.out, exprStep, Option.bind_some, if_pos ⟨hT, by rw [HST.out, hd]; omega⟩, HST.out, hd, List.length_append, hlen2]; simp; omega)
          have HOK2 := Lib.hid (show ∀ v ∈ st.take f ++ [u], okB v = true from fun v hv' => by
            rcases List.mem_append.mp hv' with h | h
            · exact hok v (List.mem_of_mem_take h)
            · simp at h; subst h
              exact huok)
          clear hv huok
          refine wp_region_held_drew (S := (fun w' => Grow W2 w' ∧ Same W2 w')) (by kernel_rfl) (by exact Grow.both (by repeat (with_reducible first | exact Grow.refl _ | assumption | refine Grow.drew ?_ | refine Grow.alloc ?_ _ | refine Grow.set ?_ (by first | exact Nat.le_refl _ | (simp; done) | (simp; omega) | omega) _ | exact And.left (by assumption) | refine Grow.trans ?_ (by assumption)))) (fun hHeld => ?_)
          ((refine tk 0 36 rfl rfl (v := ?_) ?_ ?_; rotate_left 1; (focus (intro w hSw; (try dsimp only at hSw); go_simp; (try with_reducible rfl); done)); all_goals (try simp only [Act.put, List.setIfInBounds_toArray, List.set_cons_zero, List.set_cons_succ])); (refine tk 1 37 rfl rfl (v := ?_) ?_ ?_; rotate_left 1; (focus (intro w hSw; (try dsimp only at hSw); go_simp; (try with_reducible rfl); done)); all_goals (try simp only [Act.put, List.setIfInBounds_toArray, List.set_cons_zero, List.set_cons_succ])); (refine tk 2 38 rfl rfl (v := ?_) ?_ ?_; rotate_left 1; (focus (intro w hSw; (try dsimp only at hSw); go_simp; (try with_reducible rfl); done)); all_goals (try simp only [Act.put, List.setIfInBounds_toArray, List.set_cons_zero, List.set_cons_succ])); (refine tk 3 39 rfl rfl (v := ?_) ?_ ?_; rotate_left 1; (focus (intro w hSw; (try dsimp only at hSw); go_simp; (try with_reducible rfl); done)); all_goals (try simp only [Act.put, List.setIfInBounds_toArray, List.set_cons_zero, List.set_cons_succ])); (refine tk 4 40 rfl rfl (v := ?_) ?_ ?_; rotate_left 1; (focus (intro w hSw; (try dsimp only at hSw); go_simp; (try with_reducible rfl); done)); all_goals (try simp only [Act.put, List.setIfInBounds_toArray, List.set_cons_zero, List.set_cons_succ])))
          refine wpAnyH_ready (rs := [5, 9]) (by kernel_rfl) (by simp) ?_
          refine AllReadyH.cons rfl (fun K hK => ?_) (AllReadyH.cons rfl (fun K hK => ?_) AllReadyH.nil)
          · go_simp
            (go_at_call 173; refine (apply_some _ x hrd _ (hsl.grow (G1.trans (And.left (by assumption)))) (hr.grow (G2.trans (And.left (by assumption)))) hT hd.symm hdr HV.out).mono ?_; rintro e4 w4 ⟨rfl, hb4⟩)
            have gX : Grow W2 w4 := GB.trans hb4
            refine hK.out _ _ (Grow.both gX) (fun hHeld => ?_)
            clear hK K
            (try simp only [Act.put, List.setIfInBounds_toArray, List.set_cons_zero, List.set_cons_succ])
            ((refine tk 6 35 rfl rfl (v := ?_) ?_ ?_; rotate_left 1; (focus (intro w hSw; (try dsimp only at hSw); go_simp; (try with_reducible rfl); done)); all_goals (try simp only [Act.put, List.setIfInBounds_toArray, List.set_cons_zero, List.set_cons_succ])))
            ((refine tk 7 42 rfl rfl (v := ?_) ?_ ?_; rotate_left 1; (focus (intro w hSw; (try dsimp only at hSw); go_simp; (try with_reducible rfl); done)); all_goals (try simp only [Act.put, List.setIfInBounds_toArray, List.set_cons_zero, List.set_cons_succ])); (refine tk 8 43 rfl rfl (v := ?_) ?_ ?_; rotate_left 1; (focus (intro w hSw; (try dsimp only at hSw); go_simp; (try with_reducible rfl); done)); all_goals (try simp only [Act.put, List.setIfInBounds_toArray, List.set_cons_zero, List.set_cons_succ])))
            (refine wpAnyH_ready (rs := [9]) (by kernel_rfl) (by simp) ?_; refine AllReadyH.cons rfl (fun K hK => ?_) AllReadyH.nil; go_simp; refine hK.out _ _ (by exact Grow.both (by repeat (with_reducible first | exact Grow.refl _ | assumption | refine Grow.drew ?_ | refine Grow.alloc ?_ _ | refine Grow.set ?_ (by first | exact Nat.le_refl _ | (simp; done) | (simp; omega) | omega) _ | exact And.left (by assumption) | refine Grow.trans ?_ (by assumption)))) (fun hHeld => ?_); clear hK K; (try simp only [Act.put, List.setIfInBounds_toArray, List.set_cons_zero, List.set_cons_succ]))
            (refine wpAnyH_ready (rs := [10]) (by kernel_rfl) (by simp) ?_; refine AllReadyH.cons rfl (fun K hK => ?_) AllReadyH.nil; go_simp; refine hK.out _ _ (by exact Grow.both (by repeat (with_reducible first | exact Grow.refl _ | assumption | refine Grow.drew ?_ | refine Grow.alloc ?_ _ | refine Grow.set ?_ (by first | exact Nat.le_refl _ | (simp; done) | (simp; omega) | omega) _ | exact And.left (by assumption) | refine Grow.trans ?_ (by assumption)))) (fun hHeld => ?_); clear hK K; (try simp only [Act.put, List.setIfInBounds_toArray, List.set_cons_zero, List.set_cons_succ]))
            ((refine tk 11 11 rfl rfl (v := ?_) ?_ ?_; rotate_left 1; (focus (intro w hSw; (try dsimp only at hSw); go_simp; (try with_reducible rfl); done)); all_goals (try simp only [Act.put, List.setIfInBounds_toArray, List.set_cons_zero, List.set_cons_succ])))
            refine wpAnyH_done (by kernel_rfl) ?_ _
            generalize hX : World.alloc w4 _ = w5
            obtain ⟨g45, s45, b45⟩ := boxedB hX
            have gZ : Grow W w5 := (hG.trans (gW2.trans gX)).trans g45
            have gR : Grow wr w5 := (gW2.trans gX).trans g45
            obtain ⟨kV, fV⟩ := free_of b45
            clear hX
            have hP := own_base hown
            have hW5 := gZ.size
            have own5 := own_grow hown gR
            have hL5 : IntKind.i64.wrap (f : Int) = f := IntWalk.i64_in _ (by omega)
            go_wp2
            refine wp_region_held_drew (S := (fun w' => Grow W w' ∧ Same W w')) (by kernel_rfl) (by exact Grow.both (by repeat (with_reducible first | exact Grow.refl _ | assumption | refine Grow.drew ?_ | refine Grow.alloc ?_ _ | refine Grow.set ?_ (by first | exact Nat.le_refl _ | (simp; done) | (simp; omega) | omega) _ | exact And.left (by assumption) | refine Grow.trans ?_ (by assumption)))) (fun hHeld => ?_)
            ((refine tk 0 47 rfl rfl (v := ?_) ?_ ?_; rotate_left 1; (focus (intro w hSw; (try dsimp only at hSw); go_simp; (try with_reducible rfl); done)); all_goals (try simp only [Act.put, List.setIfInBounds_toArray, List.set_cons_zero, List.set_cons_succ])); (refine tk 1 48 rfl rfl (v := ?_) ?_ ?_; rotate_left 1; (focus (intro w hSw; (try dsimp only at hSw); go_simp; (try with_reducible rfl); done)); all_goals (try simp only [Act.put, List.setIfInBounds_toArray, List.set_cons_zero, List.set_cons_succ])); (refine tk 2 49 rfl rfl (v := ?_) ?_ ?_; rotate_left 1; (focus (intro w hSw; (try dsimp only at hSw); go_simp; (try with_reducible rfl); done)); all_goals (try simp only [Act.put, List.setIfInBounds_toArray, List.set_cons_zero, List.set_cons_succ])))
            (refine wpAnyH_ready (rs := [3]) (by kernel_rfl) (by simp) ?_; refine AllReadyH.cons rfl (fun K hK => ?_) AllReadyH.nil; go_simp; refine hK.out _ _ (by exact Grow.both (by repeat (with_reducible first | exact Grow.refl _ | assumption | refine Grow.drew ?_ | refine Grow.alloc ?_ _ | refine Grow.set ?_ (by first | exact Nat.le_refl _ | (simp; done) | (simp; omega) | omega) _ | exact And.left (by assumption) | refine Grow.trans ?_ (by assumption)))) (fun hHeld => ?_); clear hK K; (try simp only [Act.put, List.setIfInBounds_toArray, List.set_cons_zero, List.set_cons_succ]))
            (refine wpAnyH_ready (rs := [4]) (by kernel_rfl) (by simp) ?_; refine AllReadyH.cons rfl (fun K hK => ?_) AllReadyH.nil; go_simp; refine hK.out _ _ (by exact Grow.both (by repeat (with_reducible first | exact Grow.refl _ | assumption | refine Grow.drew ?_ | refine Grow.alloc ?_ _ | refine Grow.set ?_ (by first | exact Nat.le_refl _ | (simp; done) | (simp; omega) | omega) _ | exact And.left (by assumption) | refine Grow.trans ?_ (by assumption)))) (fun hHeld => ?_); clear hK K; (try simp only [Act.put, List.setIfInBounds_toArray, List.set_cons_zero, List.set_cons_succ]))
            generalize hY : World.alloc _ _ = w6
            obtain ⟨gY6, sY6, bY6⟩ := boxedB hY
            replace gY6 : Grow w5 w6 := gY6
            have gW6 : Grow W w6 := gZ.trans gY6
            have own6 := own_take (own_grow own5 gY6) hfl
            refine wpAnyH_ready (rs := [5]) (by kernel_rfl) (by simp) ?_
            refine AllReadyH.cons rfl (fun K hK => ?_) AllReadyH.nil
            refine step_append_lies _ (by rfl) (.tmp 49) (.tmp 51) 45 (by rfl) W.heap.size 50 iv _ 3 32 Tryz.underlying45 hiv hz0 hz1 hz2 (by rfl) (by decide) _ f (rows.take (f * 3)) (by rfl) own6 ⟨w5.heap.size, 0, none⟩ 1 1 [.int .i64 u.kind, .int .i64 u.n, .string u.s] (by rfl) (by rfl) (World.news_of_block bY6) (fun x hx => by simp at hx; rcases hx with rfl | rfl | rfl <;> rfl) (by decide) (by unfold maxLen; omega) (by omega) gW6.size _ rfl ?_
            intro g cap w7 hown7 hgrow7 hat hlt7
            have gW7 : Grow W w7 := Below.grown gW6.drew hgrow7 gW6.size (fun q hq => by simp [Value.ownBlock] at hq; subst hq; exact hP)
            refine hK.out _ _ (Grow.both gW7) (fun hHeld => ?_)
            clear hK K
            (try simp only [Act.put, List.setIfInBounds_toArray, List.set_cons_zero, List.set_cons_succ])
            ((refine tk 6 6 rfl rfl (v := ?_) ?_ ?_; rotate_left 1; (focus (intro w hSw; (try dsimp only at hSw); go_simp; (try with_reducible rfl); done)); all_goals (try simp only [Act.put, List.setIfInBounds_toArray, List.set_cons_zero, List.set_cons_succ])))
            refine wpAnyH_done (by kernel_rfl) ?_ _
            go_wp2
            go_roundw
            case rel => exact ⟨k + 1, st.take f ++ [u], g, f + 1, cap, _, by omega, by omega, by go_num, rfl, hown7, HFL.out w7, by rw [List.length_append, hlen2]; rfl, HR2.out, HX2.out, HOK2.out, gW7⟩
            case measure => simp [intOf]; omega
          · go_simp
            generalize hX : World.drew (World.alloc w2 _) = w3
            have gB : Grow w2 w3 := by rw [← hX]; exact ((Grow.refl _).alloc _).drew
            have sB : w2.heap.size < w3.heap.size := by rw [← hX]; simp
            have bB3 : w3.heap[w2.heap.size]? = some (.cells #[.int .i64 0, .int .i64 0, .string ⟨#[]⟩] 50 (0, 0)) := by rw [← hX]; exact new_block _ _
            obtain ⟨kB, fB⟩ := free_of bB3
            have gX : Grow W2 w3 := g2.trans gB
            refine hK.out _ _ (Grow.both gX) (fun hHeld => ?_)
            clear hK K hX
            (try simp only [Act.put, List.setIfInBounds_toArray, List.set_cons_zero, List.set_cons_succ])
            (refine wpAnyH_ready (rs := [5]) (by kernel_rfl) (by simp) ?_; refine AllReadyH.cons rfl (fun K hK => ?_) AllReadyH.nil; go_simp; (go_at_call 173; refine (apply_some _ x hrd _ (hsl.grow (G1.trans (And.left (by assumption)))) (hr.grow (G2.trans (And.left (by assumption)))) hT hd.symm hdr HV.out).mono ?_; rintro e4 w4 ⟨rfl, hb4⟩); refine hK.out _ _ (by exact Grow.both (by repeat (with_reducible first | exact Grow.refl _ | assumption | refine Grow.drew ?_ | refine Grow.alloc ?_ _ | refine Grow.set ?_ (by first | exact Nat.le_refl _ | (simp; done) | (simp; omega) | omega) _ | exact And.left (by assumption) | refine Grow.trans ?_ (by assumption)))) (fun hHeld => ?_); clear hK K; (try refine held_put 41 rfl ?_); (try simp only [Act.put, List.setIfInBounds_toArray, List.set_cons_zero, List.set_cons_succ]))
            have gY : Grow W2 w4 := gX.trans hb4
            have sz2 := g2.size
            have hc4 := hb4.same
            have hf4 := hb4.sameF
            have sB4 := Nat.lt_of_lt_of_le sB hb4.size
            ((refine tk 6 35 rfl rfl (v := ?_) ?_ ?_; rotate_left 1; (focus (intro w hSw; (try dsimp only at hSw); go_simp; (try with_reducible rfl); done)); all_goals (try simp only [Act.put, List.setIfInBounds_toArray, List.set_cons_zero, List.set_cons_succ])))
            ((refine tk 7 42 rfl rfl (v := ?_) ?_ ?_; rotate_left 1; (focus (intro w hSw; (try dsimp only at hSw); go_simp; (try with_reducible rfl); done)); all_goals (try simp only [Act.put, List.setIfInBounds_toArray, List.set_cons_zero, List.set_cons_succ])); (refine tk 8 43 rfl rfl (v := ?_) ?_ ?_; rotate_left 1; (focus (intro w hSw; (try dsimp only at hSw); go_simp; (try with_reducible rfl); done)); all_goals (try simp only [Act.put, List.setIfInBounds_toArray, List.set_cons_zero, List.set_cons_succ])))
            (refine wpAnyH_ready (rs := [10]) (by kernel_rfl) (by simp) ?_; refine AllReadyH.cons rfl (fun K hK => ?_) AllReadyH.nil; go_simp; refine hK.out _ _ (by exact Grow.both (by repeat (with_reducible first | exact Grow.refl _ | assumption | refine Grow.drew ?_ | refine Grow.alloc ?_ _ | refine Grow.set ?_ (by first | exact Nat.le_refl _ | (simp; done) | (simp; omega) | omega) _ | exact And.left (by assumption) | refine Grow.trans ?_ (by assumption)))) (fun hHeld => ?_); clear hK K; (try simp only [Act.put, List.setIfInBounds_toArray, List.set_cons_zero, List.set_cons_succ]))
            ((refine tk 11 11 rfl rfl (v := ?_) ?_ ?_; rotate_left 1; (focus (intro w hSw; (try dsimp only at hSw); go_simp; (try with_reducible rfl); done)); all_goals (try simp only [Act.put, List.setIfInBounds_toArray, List.set_cons_zero, List.set_cons_succ])))
            refine wpAnyH_done (by kernel_rfl) ?_ _
            have bV := setL_own ((hb4.block sB).trans bB3) 0 [.int .i64 u.kind, .int .i64 u.n, .string u.s]
            have gR0 : Grow wr (setL w4 w2.heap.size 0 [.int .i64 u.kind, .int .i64 u.n, .string u.s]) := setL_grow (gW2.trans gY) (Nat.le_trans gW2.size sz2) _ _
            have sV0 : w2.heap.size < (setL w4 w2.heap.size 0 [.int .i64 u.kind, .int .i64 u.n, .string u.s]).heap.size := by rw [setL_size]; exact sB4
            have gZ0 : Grow W (setL w4 w2.heap.size 0 [.int .i64 u.kind, .int .i64 u.n, .string u.s]) := setL_grow (hG.trans (gW2.trans gY)) (Nat.le_trans (hG.trans gW2).size sz2) _ _
            simp only [setL, Nat.reduceAdd] at bV gR0 sV0 gZ0
            generalize hX : World.setCell _ _ _ = w5 at bV gR0 sV0 gZ0 ⊢
            have gZ := gZ0
            have gR := gR0
            obtain ⟨kV, fV⟩ := free_of (show w5.heap[w2.heap.size]? = some (.cells #[.int .i64 u.kind, .int .i64 u.n, .string u.s] _ (0, 0)) from bV)
            clear hX
            have hP := own_base hown
            have hW5 := gZ.size
            have own5 := own_grow hown gR
            have hL5 : IntKind.i64.wrap (f : Int) = f := IntWalk.i64_in _ (by omega)
            go_wp2
            refine wp_region_held_drew (S := (fun w' => Grow W w' ∧ Same W w')) (by kernel_rfl) (by exact Grow.both (by repeat (with_reducible first | exact Grow.refl _ | assumption | refine Grow.drew ?_ | refine Grow.alloc ?_ _ | refine Grow.set ?_ (by first | exact Nat.le_refl _ | (simp; done) | (simp; omega) | omega) _ | exact And.left (by assumption) | refine Grow.trans ?_ (by assumption)))) (fun hHeld => ?_)
            ((refine tk 0 47 rfl rfl (v := ?_) ?_ ?_; rotate_left 1; (focus (intro w hSw; (try dsimp only at hSw); go_simp; (try with_reducible rfl); done)); all_goals (try simp only [Act.put, List.setIfInBounds_toArray, List.set_cons_zero, List.set_cons_succ])); (refine tk 1 48 rfl rfl (v := ?_) ?_ ?_; rotate_left 1; (focus (intro w hSw; (try dsimp only at hSw); go_simp; (try with_reducible rfl); done)); all_goals (try simp only [Act.put, List.setIfInBounds_toArray, List.set_cons_zero, List.set_cons_succ])); (refine tk 2 49 rfl rfl (v := ?_) ?_ ?_; rotate_left 1; (focus (intro w hSw; (try dsimp only at hSw); go_simp; (try with_reducible rfl); done)); all_goals (try simp only [Act.put, List.setIfInBounds_toArray, List.set_cons_zero, List.set_cons_succ])))
            (refine wpAnyH_ready (rs := [3]) (by kernel_rfl) (by simp) ?_; refine AllReadyH.cons rfl (fun K hK => ?_) AllReadyH.nil; go_simp; refine hK.out _ _ (by exact Grow.both (by repeat (with_reducible first | exact Grow.refl _ | assumption | refine Grow.drew ?_ | refine Grow.alloc ?_ _ | refine Grow.set ?_ (by first | exact Nat.le_refl _ | (simp; done) | (simp; omega) | omega) _ | exact And.left (by assumption) | refine Grow.trans ?_ (by assumption)))) (fun hHeld => ?_); clear hK K; (try simp only [Act.put, List.setIfInBounds_toArray, List.set_cons_zero, List.set_cons_succ]))
            (refine wpAnyH_ready (rs := [4]) (by kernel_rfl) (by simp) ?_; refine AllReadyH.cons rfl (fun K hK => ?_) AllReadyH.nil; go_simp; refine hK.out _ _ (by exact Grow.both (by repeat (with_reducible first | exact Grow.refl _ | assumption | refine Grow.drew ?_ | refine Grow.alloc ?_ _ | refine Grow.set ?_ (by first | exact Nat.le_refl _ | (simp; done) | (simp; omega) | omega) _ | exact And.left (by assumption) | refine Grow.trans ?_ (by assumption)))) (fun hHeld => ?_); clear hK K; (try simp only [Act.put, List.setIfInBounds_toArray, List.set_cons_zero, List.set_cons_succ]))
            generalize hY : World.alloc _ _ = w6
            obtain ⟨gY6, sY6, bY6⟩ := boxedB hY
            replace gY6 : Grow w5 w6 := gY6
            have gW6 : Grow W w6 := gZ.trans gY6
            have own6 := own_take (own_grow own5 gY6) hfl
            refine wpAnyH_ready (rs := [5]) (by kernel_rfl) (by simp) ?_
            refine AllReadyH.cons rfl (fun K hK => ?_) AllReadyH.nil
            refine step_append_lies _ (by rfl) (.tmp 49) (.tmp 51) 45 (by rfl) W.heap.size 50 iv _ 3 32 Tryz.underlying45 hiv hz0 hz1 hz2 (by rfl) (by decide) _ f (rows.take (f * 3)) (by rfl) own6 ⟨w5.heap.size, 0, none⟩ 1 1 [.int .i64 u.kind, .int .i64 u.n, .string u.s] (by rfl) (by rfl) (World.news_of_block bY6) (fun x hx => by simp at hx; rcases hx with rfl | rfl | rfl <;> rfl) (by decide) (by unfold maxLen; omega) (by omega) gW6.size _ rfl ?_
            intro g cap w7 hown7 hgrow7 hat hlt7
            have gW7 : Grow W w7 := Below.grown gW6.drew hgrow7 gW6.size (fun q hq => by simp [Value.ownBlock] at hq; subst hq; exact hP)
            refine hK.out _ _ (Grow.both gW7) (fun hHeld => ?_)
            clear hK K
            (try simp only [Act.put, List.setIfInBounds_toArray, List.set_cons_zero, List.set_cons_succ])
            ((refine tk 6 6 rfl rfl (v := ?_) ?_ ?_; rotate_left 1; (focus (intro w hSw; (try dsimp only at hSw); go_simp; (try with_reducible rfl); done)); all_goals (try simp only [Act.put, List.setIfInBounds_toArray, List.set_cons_zero, List.set_cons_succ])))
            refine wpAnyH_done (by kernel_rfl) ?_ _
            go_wp2
            go_roundw
            case rel => exact ⟨k + 1, st.take f ++ [u], g, f + 1, cap, _, by omega, by omega, by go_num, rfl, hown7, HFL.out w7, by rw [List.length_append, hlen2]; rfl, HR2.out, HX2.out, HOK2.out, gW7⟩
            case measure => simp [intOf]; omega
    · have hke : la ≤ k := by omega
      have het : e.take k = e := List.take_of_length_le (by rw [HE.out]; exact hke)
      have hr1 := hrun.out
      rw [het] at hr1
      have hx2 := hxr.out
      rw [het, hx1] at hx2
      have hl1 : st.length = 1 := by have := Option.some.inj hx2; omega
      obtain ⟨v, rfl⟩ := List.length_eq_one_iff.mp hl1
      have hev := Lib.hid (show evL e row = some v by rw [evL, ho, HR.out, HXL.out, Bool.and_self, if_pos rfl, hr1]; rfl)
      obtain rfl : l = 1 := hst.symm
      have hsl := own_isSl (S' := (· < wr.heap.size)) hown hf hst (fun _ h => h.elim) (fun _ _ h _ => h)
      obtain ⟨b, off, y, hA, hy, _, hb, hs, c0, c1, c2⟩ := val_at hsl (i := 0) (by omega)
      simp only [Option.some.injEq, Addr.mk.injEq, and_true] at hA
      obtain ⟨rfl, rfl⟩ := hA
      obtain rfl : v = y := Option.some.inj hy.out
      simp only [Nat.zero_mul, Nat.zero_add, Nat.add_zero] at c0 c1 c2
      have hcW := hG.same
      have hfW := hG.sameF
      clear hx2 hr1 het hrun hxr
      go_wp2
      exact bodyPost_ret (v := .tuple #[.agg #[.int .i64 v.kind, .int .i64 v.n, .string v.s], .bool true]) (by simp [results, Tryz.results157, go_sem, hcW, k1, hs']) rfl (optE_some hev.out (by repeat (with_reducible first | exact Grow.refl _ | assumption | refine Grow.drew ?_ | refine Grow.alloc ?_ _ | refine Grow.set ?_ (by first | exact Nat.le_refl _ | (simp; done) | (simp; omega) | omega) _ | exact And.left (by assumption) | refine Grow.trans ?_ (by assumption))))
end Go.Proofs.YtjeilgogjoidjaaGreat
