import Derived.Test.YtonijaniaimgaaaTruth
/-! Of expressions, in plain terms: what is laid behind one another runs one after the other. -/
namespace Go.Proofs.Ytonijaniaimgaaa
open Go.RowKit
set_option linter.unusedVariables false
set_option linter.unusedSimpArgs false
def tk (k : Int) : Tok := ⟨k, 0, vNull⟩
theorem exprRun_snoc (cols : Int) (e : List Tok) (t : Tok) : exprRun cols (e ++ [t]) = exprStep cols (exprRun cols e) t := by simp [exprRun, List.foldl_append]
theorem runV_snoc (row : List Val) (e : List Tok) (t : Tok) : runV row (e ++ [t]) = stepV row (runV row e) t := by simp [runV, List.foldl_append]
theorem exprStep_some {cols : Int} {o : Option Int} {t : Tok} {r : Int} (h : exprStep cols o t = some r) : ∃ l, o = some l ∧ isTokB t cols = true ∧ takesB t ≤ l ∧ r = l + 1 - takesB t := by
  unfold exprStep at h
  obtain ⟨l, hl, h⟩ := Option.bind_eq_some_iff.mp h
  split at h
  · rename_i hc
    cases h
    exact ⟨l, hl, hc.1, hc.2, rfl⟩
  · cases h
/-- What runs by itself runs on any stack. -/
theorem frame_run (row : List Val) (cols : Int) : ∀ (n : Nat) (e : List Tok) (r : Int), e.length = n → exprRun cols e = some r → 0 ≤ r ∧
    (∀ s0 : List Val, e.foldl (stepV row) (some s0) = (runV row e).map (s0 ++ ·)) ∧ (∀ st, runV row e = some st → (st.length : Int) = r) ∧ ∀ d : Int, 0 ≤ d → e.foldl (exprStep cols) (some d) = some (d + r)
  | 0, e, r, hn, h => by
    obtain rfl := List.length_eq_zero_iff.mp hn
    have : r = 0 := by simp [exprRun] at h; exact h.symm
    subst this
    refine ⟨Int.le_refl _, fun s0 => by simp [runV], fun st hs => ?_, fun d hd => by simp⟩
    simp [runV] at hs
    subst hs
    rfl
  | n + 1, e, r, hn, h => by
    rcases List.eq_nil_or_concat e with rfl | ⟨l, t, he⟩
    · cases hn
    · rw [List.concat_eq_append] at he
      subst he
      have hl : l.length = n := by simp at hn; omega
      rw [exprRun_snoc] at h
      obtain ⟨q, hq, ht, hk, rfl⟩ := exprStep_some h
      obtain ⟨q0, ih1, ih2, ih3⟩ := frame_run row cols n l q hl hq
      have hb := takesB_le t
      refine ⟨by omega, fun s0 => ?_, fun st hs => ?_, fun d hd => ?_⟩
      · rw [List.foldl_append, ih1, runV_snoc]
        cases hr : runV row l with
        | none => rfl
        | some st =>
          have hlen := ih2 st hr
          have hle : (takesB t).toNat ≤ st.length := by omega
          have e1 : (s0 ++ st).length - (takesB t).toNat = s0.length + (st.length - (takesB t).toNat) := by rw [List.length_append]; omega
          simp only [Option.map_some, List.foldl_cons, List.foldl_nil, stepV, Option.bind_some]
          rw [e1, List.drop_append, List.take_append]
          simp only [show s0.length + (st.length - (takesB t).toNat) - s0.length = st.length - (takesB t).toNat from by omega, List.drop_of_length_le (show s0.length ≤ s0.length + (st.length - (takesB t).toNat) by omega),
            List.take_of_length_le (show s0.length ≤ s0.length + (st.length - (takesB t).toNat) by omega), List.nil_append]
          cases applyV t (st.drop (st.length - (takesB t).toNat)) row <;> simp
      · rw [runV_snoc] at hs
        cases hr : runV row l with
        | none => rw [hr] at hs; cases hs
        | some s1 =>
          have hlen := ih2 s1 hr
          rw [hr] at hs
          simp only [stepV, Option.bind_some] at hs
          obtain ⟨v, hv, hs⟩ := Option.map_eq_some_iff.mp hs
          subst hs
          rw [List.length_append, List.length_take, List.length_singleton]
          omega
      · rw [List.foldl_append, ih3 d hd]
        simp only [List.foldl_cons, List.foldl_nil, exprStep, Option.bind_some]
        rw [if_pos ⟨ht, by omega⟩]
        congr 1
        omega
/-- A right expression that runs to one value. -/
def Runs (row : List Val) (e : List Tok) (v : Val) : Prop := exprRun row.length e = some 1 ∧ runV row e = some [v]
theorem one_of {st : List Val} {v : Val} (hl : st.length = 1) (h : st[0]? = some v) : st = [v] := by
  match st, hl with
  | [x], _ => simpa using h
theorem evL_iff {e : List Tok} {row : List Val} {v : Val} : evL e row = some v ↔ okVals row = true ∧ e.length ≤ 24 ∧ Runs row e v := by
  constructor
  · intro h
    unfold evL at h
    split at h
    · rename_i hc
      simp only [Bool.and_eq_true, exprL, decide_eq_true_eq] at hc
      obtain ⟨h1, h2, h3⟩ := hc
      obtain ⟨st, hs, hv⟩ := Option.bind_eq_some_iff.mp h
      have hl := (frame_run row row.length _ e 1 rfl h2).2.2.1 st hs
      exact ⟨h1, h3, h2, by rw [hs, one_of (by omega) hv]⟩
    · cases h
  · rintro ⟨h1, h3, h2, hr⟩
    unfold evL
    rw [if_pos (by simp [h1, exprL, h2, h3]), hr]
    rfl
theorem runs_ok {e : List Tok} {row : List Val} (hr : ∀ v ∈ row, okB v = true) : ∀ (n : Nat) (e : List Tok) (r : Int) (st : List Val), e.length = n → exprRun row.length e = some r → runV row e = some st → ∀ v ∈ st, okB v = true
  | 0, e, r, st, hn, h, hs => by
    obtain rfl := List.length_eq_zero_iff.mp hn
    simp [runV] at hs
    subst hs
    simp
  | n + 1, e, r, st, hn, h, hs => by
    rcases List.eq_nil_or_concat e with rfl | ⟨l, t, he⟩
    · cases hn
    · rw [List.concat_eq_append] at he
      subst he
      rw [exprRun_snoc] at h
      obtain ⟨q, hq, ht, hk, rfl⟩ := exprStep_some h
      rw [runV_snoc] at hs
      cases hr1 : runV row l with
      | none => rw [hr1] at hs; cases hs
      | some s1 =>
        have ih := runs_ok (e := e) hr n l q s1 (by simp at hn; omega) hq hr1
        rw [hr1] at hs
        simp only [stepV, Option.bind_some] at hs
        obtain ⟨v, hv, hs⟩ := Option.map_eq_some_iff.mp hs
        subst hs
        intro u hu
        rcases List.mem_append.mp hu with hu | hu
        · exact ih u (List.mem_of_mem_take hu)
        · simp at hu
          subst hu
          exact applyV_ok ht hr hv
theorem okVals_all {row : List Val} (h : okVals row = true) : ∀ v ∈ row, okB v = true := by
  simp only [okVals, Bool.and_eq_true, List.all_eq_true] at h
  exact h.1
theorem evL_ok {e : List Tok} {row : List Val} {v : Val} (h : evL e row = some v) : okB v = true := by
  obtain ⟨h1, h2, h3, h4⟩ := evL_iff.mp h
  exact runs_ok (e := e) (okVals_all h1) _ e 1 [v] rfl h3 h4 v (by simp)
theorem runs_push {row : List Val} {e : List Tok} {v u : Val} {t : Tok} (h : Runs row e v) (ht : isTokB t row.length = true) (hk : takesB t = 1) (hu : applyV t [v] row = some u) : Runs row (e ++ [t]) u := by
  refine ⟨?_, ?_⟩
  · rw [exprRun_snoc, h.1]; simp [exprStep, ht, hk]
  · rw [runV_snoc, h.2]; simp [stepV, hk, hu]
theorem evL_push {row : List Val} {e : List Tok} {v : Val} {t : Tok} (h : evL e row = some v) (ht : isTokB t row.length = true) (hk : takesB t = 1) (hl : e.length ≤ 23) : evL (e ++ [t]) row = applyV t [v] row := by
  obtain ⟨h1, h2, h3, h4⟩ := evL_iff.mp h
  have hx : exprL row.length (e ++ [t]) = true := by
    simp only [exprL, Bool.and_eq_true, decide_eq_true_eq]
    exact ⟨by rw [exprRun_snoc, h3]; simp [exprStep, ht, hk], by rw [List.length_append, List.length_singleton]; omega⟩
  unfold evL
  rw [if_pos (by rw [h1, hx]; rfl), runV_snoc, h4]
  simp [stepV, hk]
  cases applyV t [v] row <;> rfl
theorem evL_two {row : List Val} {e g : List Tok} {v u : Val} {t : Tok} (ho : okVals row = true) (h : Runs row e v) (hg : Runs row g u) (ht : isTokB t row.length = true) (hk : takesB t = 2) (hl : e.length + g.length ≤ 23) :
    evL ((e ++ g) ++ [t]) row = applyV t [v, u] row := by
  have f1 := frame_run row row.length _ g 1 rfl hg.1
  have e1 : exprRun row.length (e ++ g) = some 2 := by
    have := f1.2.2.2 1 (by decide)
    rw [exprRun, List.foldl_append, ← exprRun, h.1, this]
    rfl
  have e2 : runV row (e ++ g) = some [v, u] := by
    have := f1.2.1 [v]
    rw [runV, List.foldl_append, ← runV, h.2, this, hg.2]
    rfl
  have hx : exprL row.length ((e ++ g) ++ [t]) = true := by
    simp only [exprL, Bool.and_eq_true, decide_eq_true_eq]
    exact ⟨by rw [exprRun_snoc, e1]; simp [exprStep, ht, hk], by rw [List.length_append, List.length_append, List.length_singleton]; omega⟩
  unfold evL
  rw [if_pos (by rw [ho, hx]; rfl), runV_snoc, e2]
  simp [stepV, hk]
  cases applyV t [v, u] row <;> rfl
theorem isTok_tk {k : Int} {n : Int} (h : 3 ≤ k ∧ k ≤ 10) : isTokB (tk k) n = true := by
  have h1 : k ≠ 1 := by omega
  have h2 : k ≠ 2 := by omega
  simp [isTokB, tk, h1, h2, inB, h.1, h.2, isZ, vNull]
theorem takes_tk2 {k : Int} (h : k = 3 ∨ k = 4 ∨ k = 5 ∨ k = 6) : takesB (tk k) = 2 := by rcases h with rfl | rfl | rfl | rfl <;> rfl
theorem truthV_cases (v : Val) : truthV v = -1 ∨ truthV v = 0 ∨ truthV v = 1 ∨ truthV v = 2 := by
  unfold truthV
  split
  · omega
  · split
    · split <;> omega
    · omega
theorem trL_some {e : List Tok} {row : List Val} {v : Val} (h : evL e row = some v) : trL e row = truthV v := by rw [trL, h]
theorem trL_none {e : List Tok} {row : List Val} (h : evL e row = none) : trL e row = -1 := by rw [trL, h]
/-- What has no value has none with a token behind that takes one. -/
theorem evL_push_none {row : List Val} {e : List Tok} {t : Tok} (h : evL e row = none) (hk : takesB t = 1) : evL (e ++ [t]) row = none := by
  cases hn : evL (e ++ [t]) row with
  | none => rfl
  | some v =>
    exfalso
    obtain ⟨h1, h2, h3, h4⟩ := evL_iff.mp hn
    rw [exprRun_snoc] at h3
    obtain ⟨q, hq, ht, hk2, h5⟩ := exprStep_some h3
    obtain rfl : q = 1 := by omega
    rw [runV_snoc] at h4
    cases hr : runV row e with
    | none => rw [hr] at h4; cases h4
    | some st =>
      have hl := (frame_run row row.length _ e 1 rfl hq).2.2.1 st hr
      match st, hl with
      | [x], _ =>
        rw [evL_iff.mpr ⟨h1, by simp at h2; omega, hq, hr⟩] at h
        cases h
theorem valT_not {a : Int} (h : a = 0 ∨ a = 1 ∨ a = 2) : ∃ u, valT (not3 a) = some u ∧ truthV u = not3 a := by
  rcases h with rfl | rfl | rfl
  · exact ⟨vInt 1, rfl, rfl⟩
  · exact ⟨vInt 0, rfl, rfl⟩
  · exact ⟨vNull, rfl, rfl⟩
theorem valT_eq {a : Int} (h : a = 0 ∨ a = 1 ∨ a = 2) : ∃ u, valT a = some u ∧ truthV u = a := by
  rcases h with rfl | rfl | rfl
  · exact ⟨vInt 0, rfl, rfl⟩
  · exact ⟨vInt 1, rfl, rfl⟩
  · exact ⟨vNull, rfl, rfl⟩
/-- The law of nots, in plain terms. -/
theorem tr_not_neg {e : List Tok} {row : List Val} (h : trL e row < 0) : trL (e ++ [tk 7]) row < 0 := by
  cases hv : evL e row with
  | none => rw [trL_none (evL_push_none hv rfl)]; decide
  | some v =>
    rw [trL_some hv] at h
    have hk : truthV v = -1 := by have := truthV_cases v; omega
    cases hn : evL (e ++ [tk 7]) row with
    | none => rw [trL_none hn]; decide
    | some u =>
      exfalso
      obtain ⟨h1, h2, h3, h4⟩ := evL_iff.mp hn
      rw [evL_push hv (isTok_tk (by decide)) rfl (by simp at h2; omega)] at hn
      simp [applyV, tk, hk, not3, truB, inB, valT] at hn
theorem tr_not {e : List Tok} {row : List Val} (h : 0 ≤ trL e row) (hl : e.length ≤ 23) : trL (e ++ [tk 7]) row = not3 (trL e row) := by
  cases hv : evL e row with
  | none => rw [trL_none hv] at h; omega
  | some v =>
    rw [trL_some hv] at h ⊢
    obtain ⟨u, hu, ht⟩ := valT_not (a := truthV v) (by have := truthV_cases v; omega)
    have := evL_push hv (isTok_tk (k := 7) (by decide)) rfl hl
    rw [show applyV (tk 7) [v] row = valT (not3 (truthV v)) from rfl, hu] at this
    rw [trL_some this, ht]
theorem tr_null {e : List Tok} {row : List Val} (h : 0 ≤ trL e row) (hl : e.length ≤ 23) : (trL (e ++ [tk 8]) row == 1) = (trL e row == 2) := by
  cases hv : evL e row with
  | none => rw [trL_none hv] at h; omega
  | some v =>
    have := evL_push hv (isTok_tk (k := 8) (by decide)) rfl hl
    rw [show applyV (tk 8) [v] row = some (vInt (if v.kind = 0 then 1 else 0)) from rfl] at this
    rw [trL_some hv] at h
    rw [trL_some this, trL_some hv]
    by_cases hk : v.kind = 0
    · simp [hk, truthV, vInt]
    · simp only [if_neg hk]
      have : truthV v ≠ 2 := by unfold truthV; rw [if_neg hk]; split <;> (try split) <;> decide
      simp [truthV, vInt, hk]
      simpa [truthV, hk] using this
theorem and3_self {a : Int} (h : a = 0 ∨ a = 1 ∨ a = 2) : and3 a a = a := by rcases h with rfl | rfl | rfl <;> rfl
theorem or3_not {a : Int} (h : a = 0 ∨ a = 1 ∨ a = 2) : or3T a (not3 a) = 1 ∨ or3T a (not3 a) = 2 := by rcases h with rfl | rfl | rfl <;> simp [or3T, not3, truB, inB]
/-- The law of either, in plain terms. -/
theorem tr_and_self {e : List Tok} {row : List Val} (h : 0 ≤ trL e row) (hl : 2 * e.length ≤ 22) : trL ((e ++ e) ++ [tk 5]) row = trL e row := by
  cases hv : evL e row with
  | none => rw [trL_none hv] at h; omega
  | some v =>
    obtain ⟨h1, h2, h3⟩ := evL_iff.mp hv
    rw [trL_some hv] at h
    have ha : truthV v = 0 ∨ truthV v = 1 ∨ truthV v = 2 := by have := truthV_cases v; omega
    have := evL_two h1 h3 h3 (isTok_tk (k := 5) (by decide)) rfl (by omega)
    rw [show applyV (tk 5) [v, v] row = valT (and3 (truthV v) (truthV v)) from rfl, and3_self ha] at this
    obtain ⟨u, hu, ht⟩ := valT_eq ha
    rw [hu] at this
    rw [trL_some this, trL_some hv, ht]
theorem tr_or_not {e : List Tok} {row : List Val} (h : 0 ≤ trL e row) (hl : 2 * e.length ≤ 22) : 1 ≤ trL ((e ++ e) ++ [tk 7, tk 6]) row := by
  cases hv : evL e row with
  | none => rw [trL_none hv] at h; omega
  | some v =>
    obtain ⟨h1, h2, h3⟩ := evL_iff.mp hv
    rw [trL_some hv] at h
    have ha : truthV v = 0 ∨ truthV v = 1 ∨ truthV v = 2 := by have := truthV_cases v; omega
    obtain ⟨u, hu, ht⟩ := valT_not ha
    have hg : Runs row (e ++ [tk 7]) u := runs_push h3 (isTok_tk (k := 7) (by decide)) rfl (by rw [show applyV (tk 7) [v] row = valT (not3 (truthV v)) from rfl]; exact hu)
    have := evL_two h1 h3 hg (isTok_tk (k := 6) (by decide)) rfl (by simp; omega)
    rw [show (e ++ (e ++ [tk 7])) ++ [tk 6] = (e ++ e) ++ [tk 7, tk 6] by simp, show applyV (tk 6) [v, u] row = valT (or3T (truthV v) (truthV u)) from rfl, ht] at this
    obtain ⟨z, hz, htz⟩ := valT_eq (a := or3T (truthV v) (not3 (truthV v))) (by have := or3_not ha; omega)
    rw [hz] at this
    rw [trL_some this, htz]
    have := or3_not ha
    omega
/-- The law of two expressions, in plain terms. -/
theorem ev_eq {e g : List Tok} {row : List Val} {v u : Val} (he : evL e row = some v) (hg : evL g row = some u) (hl : e.length + g.length ≤ 23) : evL ((e ++ g) ++ [tk 3]) row = valT (eq3 v u) := by
  obtain ⟨h1, h2, h3⟩ := evL_iff.mp he
  obtain ⟨_, _, h4⟩ := evL_iff.mp hg
  exact evL_two h1 h3 h4 (isTok_tk (k := 3) (by decide)) rfl hl
theorem ev_less {e g : List Tok} {row : List Val} {v u : Val} (he : evL e row = some v) (hg : evL g row = some u) (hl : e.length + g.length ≤ 23) : evL ((e ++ g) ++ [tk 4]) row = valT (less3 v u) := by
  obtain ⟨h1, h2, h3⟩ := evL_iff.mp he
  obtain ⟨_, _, h4⟩ := evL_iff.mp hg
  exact evL_two h1 h3 h4 (isTok_tk (k := 4) (by decide)) rfl hl
end Go.Proofs.Ytonijaniaimgaaa
