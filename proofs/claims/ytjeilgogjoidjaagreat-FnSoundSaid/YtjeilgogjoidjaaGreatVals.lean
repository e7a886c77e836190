import Derived.Test.YtjeilgogjoidjaaGreatLib
/-! Values: what the program's and the reference's functions of chapter 1 return. -/
namespace Go.Proofs.YtjeilgogjoidjaaGreat
open Go.RowKit
set_option linter.unusedVariables false
set_option linter.unusedSimpArgs false

/-- A Val as Go has it. -/
structure Val where
  kind : Int
  n : Int
  s : ByteArray
def Val.cells (a : Val) : Array Value := #[.int .i64 a.kind, .int .i64 a.n, .string a.s]
def Val.v (a : Val) : Value := .agg #[.int .i64 a.kind, .int .i64 a.n, .string a.s]
/-- ValOk. -/
def okB (a : Val) : Bool :=
  if a.kind = 0 then a.n == 0 && a.s.toList.isEmpty else
  if a.kind = 1 then decide (-1000000000 ≤ a.n) && (decide (a.n ≤ 1000000000) && a.s.toList.isEmpty) else
  if a.kind = 2 then a.n == 0 && decide (a.s.size ≤ 12) else false
def inB (n low high : Int) : Bool := decide (low ≤ n) && decide (n ≤ high)

def knownB (a b : Val) : Bool := okB a && (okB b && (a.kind != 0 && b.kind != 0))

theorem in_any (a b c : Int) (w : World) : Calls Tryz.prog 57 #[.int .i64 a, .int .i64 b, .int .i64 c] w (Just w (.bool (inB a b c))) := by
  go_enter Tryz.func57, Tryz.ntmps57
  go_wp2
  all_goals go_ret
  all_goals refine ⟨ret_bool ?_, rfl⟩
  all_goals simp_all [inB]
  all_goals omega

theorem l1In_any (a b c : Int) (w : World) : Calls Tryz.prog 42 #[.int .i64 a, .int .i64 b, .int .i64 c] w (Just w (.bool (inB a b c))) := by
  go_enter Tryz.func42, Tryz.ntmps42
  go_wp2
  all_goals go_ret
  all_goals refine ⟨ret_bool ?_, rfl⟩
  all_goals simp_all [inB]
  all_goals omega

theorem iValOk_any (k n : Int) (s : ByteArray) (w : World) : Calls Tryz.prog 104 #[.agg #[.int .i64 k, .int .i64 n, .string s]] w (Ret w (.bool (okB ⟨k, n, s⟩))) := by
  go_enter Tryz.func104, Tryz.ntmps104
  go_wp2
  all_goals go_ret
  all_goals refine ⟨ret_bool ?_, (Grow.refl _).alloc _⟩
  all_goals simp_all [okB]
  all_goals omega

theorem sValOk_any (k n : Int) (s : ByteArray) (w : World) : Calls Tryz.prog 116 #[.agg #[.int .i64 k, .int .i64 n, .string s]] w (Ret w (.bool (okB ⟨k, n, s⟩))) := by
  go_enter Tryz.func116, Tryz.ntmps116
  go_wp2
  all_goals go_ret
  all_goals refine ⟨ret_bool ?_, (Grow.refl _).alloc _⟩
  all_goals simp_all [okB]
  all_goals omega

theorem l1Yes_any (b : Bool) (w : World) : Calls Tryz.prog 177 #[.bool b] w (Just w (.int .i64 (if b then 1 else 0))) := by
  go_enter Tryz.func177, Tryz.ntmps177
  cases b <;> go_wp2 <;> go_ret <;> exact ⟨rfl, rfl⟩

theorem truthOf_any (b : Bool) (w : World) : Calls Tryz.prog 174 #[.bool b] w (Just w (.int .i64 (if b then 1 else 0))) := by
  go_enter Tryz.func174, Tryz.ntmps174
  cases b <;> go_wp2 <;> go_ret <;> exact ⟨rfl, rfl⟩

theorem areKnown_any (k n : Int) (s : ByteArray) (l m : Int) (t : ByteArray) (w : World) :
    Calls Tryz.prog 194 #[.agg #[.int .i64 k, .int .i64 n, .string s], .agg #[.int .i64 l, .int .i64 m, .string t]] w (Ret w (.bool (knownB ⟨k, n, s⟩ ⟨l, m, t⟩))) := by
  go_enter Tryz.func194, Tryz.ntmps194
  go_wp2_with fail
  generalize hW : World.alloc (World.alloc w _) _ = W
  obtain ⟨hg, hs, hs', k1, k2⟩ := boxed2 hW
  clear hW
  have hcur := Grow.refl W
  go_wp2_with (go_at_call 104; (with_reducible refine (iValOk_any _ _ _ _).mono ?_); rintro e w1 ⟨rfl, hb⟩; replace hcur := hcur.trans hb; replace hc := hcur.same; clear hb)
  all_goals go_ret
  all_goals refine ⟨ret_bool ?_, hg.trans hcur⟩
  all_goals simp_all [knownB]

def eqV (a b : Val) : Bool := a.kind == b.kind && (a.n == b.n && a.s.toList == b.s.toList)
def eq3 (a b : Val) : Int := if knownB a b then if eqV a b then 1 else 0 else 2
theorem iEqual3_any (k n : Int) (s : ByteArray) (l m : Int) (t : ByteArray) (w : World) :
    Calls Tryz.prog 183 #[.agg #[.int .i64 k, .int .i64 n, .string s], .agg #[.int .i64 l, .int .i64 m, .string t]] w (Ret w (.int .i64 (eq3 ⟨k, n, s⟩ ⟨l, m, t⟩))) := by
  go_enter Tryz.func183, Tryz.ntmps183
  go_wp2_with fail
  generalize hW : World.alloc (World.alloc w _) _ = W
  obtain ⟨hg, hs, hs', k1, k2⟩ := boxed2 hW
  clear hW
  have hcur := Grow.refl W
  go_wp2_with (first | (go_at_call 194; (with_reducible refine (areKnown_any _ _ _ _ _ _ _).mono ?_); rintro e w1 ⟨rfl, hb⟩; replace hcur := hcur.trans hb; replace hc := hcur.same; clear hb) | (go_at_call 174; (with_reducible refine (truthOf_any _ _).mono ?_); rintro e w1 ⟨rfl, rfl⟩))
  all_goals go_ret
  all_goals refine ⟨ret_int ?_, hg.trans hcur⟩
  all_goals simp_all [eq3, eqV]
theorem sEqual3_any (k n : Int) (s : ByteArray) (l m : Int) (t : ByteArray) (w : World) :
    Calls Tryz.prog 189 #[.agg #[.int .i64 k, .int .i64 n, .string s], .agg #[.int .i64 l, .int .i64 m, .string t]] w (Ret w (.int .i64 (eq3 ⟨k, n, s⟩ ⟨l, m, t⟩))) := by
  go_enter Tryz.func189, Tryz.ntmps189
  go_wp2_with fail
  generalize hW : World.alloc (World.alloc w _) _ = W
  obtain ⟨hg, hs, hs', k1, k2⟩ := boxed2 hW
  clear hW
  have hcur := Grow.refl W
  go_wp2_with (first | (go_at_call 116; (with_reducible refine (sValOk_any _ _ _ _).mono ?_); rintro e w1 ⟨rfl, hb⟩; replace hcur := hcur.trans hb; replace hc := hcur.same; clear hb) | (go_at_call 177; (with_reducible refine (l1Yes_any _ _).mono ?_); rintro e w1 ⟨rfl, rfl⟩))
  all_goals go_ret
  all_goals refine ⟨ret_int ?_, hg.trans hcur⟩
  all_goals simp_all [eq3, eqV, knownB]

def cmpI (a b : Int) : Int := if a < b then -1 else if b < a then 1 else 0
def cmpS (a b : ByteArray) : Int := if Op.bytesLess a.toList b.toList then -1 else if a.toList = b.toList then 0 else 1
def or3 (x y z : Int) : Int := if x = 0 then if y = 0 then z else y else x
def ordV (a b : Val) : Int := or3 (cmpI a.kind b.kind) (cmpI a.n b.n) (cmpS a.s b.s)
def order (a b : Val) : Int := if okB a && okB b then ordV a b else 0
def less3 (a b : Val) : Int := if knownB a b then if ordV a b < 0 then 1 else 0 else 2
theorem cmpS_any (a b : ByteArray) (w : World) : Calls Tryz.prog 201 #[.string a, .string b] w (Just w (.int .i64 (cmpS a b))) := by
  go_enter Tryz.func201, Tryz.ntmps201
  go_wp2
  all_goals go_ret
  all_goals refine ⟨ret_int ?_, rfl⟩
  all_goals simp_all [cmpS]
theorem cmpI_any (a b : Int) (w : World) : Calls Tryz.prog 200 #[.int .i64 a, .int .i64 b] w (Just w (.int .i64 (cmpI a b))) := by
  go_enter Tryz.func200, Tryz.ntmps200
  go_wp2
  all_goals go_ret
  all_goals refine ⟨ret_int ?_, rfl⟩
  all_goals simp_all [cmpI] <;> omega
theorem or_any (b : Nat) (x y z : Int) (w : World) (h0 : w.cell? ⟨b, 0, none⟩ = some (.int .i64 x)) (h1 : w.cell? ⟨b, 1, none⟩ = some (.int .i64 y)) (h2 : w.cell? ⟨b, 2, none⟩ = some (.int .i64 z)) :
    Calls Tryz.prog 199 #[.slice (some ⟨b, 0, none⟩) 3 3] w (Just w (.int .i64 (or3 x y z))) := by
  go_enter Tryz.func199, Tryz.ntmps199
  go_wp2
  refine wp_loop_rounds 4 ?_; rw [rounds_succ]
  by_cases hx : x = 0
  · subst hx
    go_wp2
    rw [rounds_succ]
    by_cases hy : y = 0
    · subst hy
      go_wp2
      rw [rounds_succ]
      by_cases hz : z = 0
      · subst hz
        go_wp2
        rw [rounds_succ]
        go_wp2
        go_ret
        exact ⟨rfl, rfl⟩
      · go_wp2
        go_ret
        exact ⟨rfl, rfl⟩
    · go_wp2
      go_ret
      exact ⟨ret_int (by simp [or3, hy]), rfl⟩
  · go_wp2
    go_ret
    exact ⟨ret_int (by simp [or3, hx]), rfl⟩
theorem order_any (k n : Int) (s : ByteArray) (l m : Int) (t : ByteArray) (w : World) :
    Calls Tryz.prog 195 #[.agg #[.int .i64 k, .int .i64 n, .string s], .agg #[.int .i64 l, .int .i64 m, .string t]] w (Ret w (.int .i64 (ordV ⟨k, n, s⟩ ⟨l, m, t⟩))) := by
  go_enter Tryz.func195, Tryz.ntmps195
  go_wp2_with fail
  generalize hW : World.alloc (World.alloc w _) _ = W
  obtain ⟨hg, hs, hs', k1, k2⟩ := boxed2 hW
  clear hW
  go_region_held3 (fun w' => Grow W w' ∧ Same W w') (exact Grow.both (by repeat (first | assumption | (with_reducible exact Grow.refl _) | refine Grow.drew ?_ | refine Grow.alloc ?_ _)))
    (first | (go_at_call 200; refine (cmpI_any _ _ _).mono ?_; rintro e w' ⟨rfl, rfl⟩) | (go_at_call 201; refine (cmpS_any _ _ _).mono ?_; rintro e w' ⟨rfl, rfl⟩) | (go_at_call 199; refine (or_any _ (cmpI k l) (cmpI n m) (cmpS s t) _ (by simp) (by simp) (by simp)).mono ?_; rintro e w' ⟨rfl, rfl⟩))
  go_wp2
  go_ret
  exact ⟨rfl, hg.trans ((Grow.refl _).alloc _).drew⟩
def ordL (a b : Val) : Int := if a.kind < b.kind ∨ a.kind = b.kind ∧ (a.n < b.n ∨ Op.bytesLess a.s.toList b.s.toList = true) then -1 else if eqV a b then 0 else 1
theorem l1Order_any (k n : Int) (s : ByteArray) (l m : Int) (t : ByteArray) (w : World) :
    Calls Tryz.prog 197 #[.agg #[.int .i64 k, .int .i64 n, .string s], .agg #[.int .i64 l, .int .i64 m, .string t]] w (Ret w (.int .i64 (ordL ⟨k, n, s⟩ ⟨l, m, t⟩))) := by
  go_enter Tryz.func197, Tryz.ntmps197
  go_wp2
  all_goals go_ret
  all_goals refine ⟨ret_int ?_, ((Grow.refl _).alloc _).alloc _⟩
  all_goals simp_all [ordL, eqV]
theorem iLess3_any (k n : Int) (s : ByteArray) (l m : Int) (t : ByteArray) (w : World) :
    Calls Tryz.prog 184 #[.agg #[.int .i64 k, .int .i64 n, .string s], .agg #[.int .i64 l, .int .i64 m, .string t]] w (Ret w (.int .i64 (less3 ⟨k, n, s⟩ ⟨l, m, t⟩))) := by
  go_enter Tryz.func184, Tryz.ntmps184
  go_wp2_with fail
  generalize hW : World.alloc (World.alloc w _) _ = W
  obtain ⟨hg, hs, hs', k1, k2⟩ := boxed2 hW
  clear hW
  have hcur := Grow.refl W
  go_wp2_with (first | (go_at_call 194; (with_reducible refine (areKnown_any _ _ _ _ _ _ _).mono ?_); rintro e w1 ⟨rfl, hb⟩; replace hcur := hcur.trans hb; replace hc := hcur.same; clear hb) | (go_at_call 195; (with_reducible refine (order_any _ _ _ _ _ _ _).mono ?_); rintro e w1 ⟨rfl, hb⟩; replace hcur := hcur.trans hb; replace hc := hcur.same; clear hb) | (go_at_call 174; (with_reducible refine (truthOf_any _ _).mono ?_); rintro e w1 ⟨rfl, rfl⟩))
  all_goals go_ret
  all_goals refine ⟨ret_int ?_, hg.trans hcur⟩
  all_goals simp_all [less3]
theorem bytesLess_self : ∀ l : List UInt8, Op.bytesLess l l = false
  | [] => by simp [Op.bytesLess]
  | a :: l => by simp [Op.bytesLess, bytesLess_self l]
theorem okB_spec {a : Val} (h : okB a = true) : (a.kind = 0 ∧ a.n = 0 ∧ a.s.toList = []) ∨ (a.kind = 1 ∧ -1000000000 ≤ a.n ∧ a.n ≤ 1000000000 ∧ a.s.toList = []) ∨ (a.kind = 2 ∧ a.n = 0 ∧ a.s.size ≤ 12) := by
  unfold okB at h
  split at h
  · simp_all
  · split at h
    · simp_all
    · split at h
      · simp_all
      · simp at h
/-- Of right values the reference's order is the program's. -/
theorem ordL_eq {a b : Val} (ha : okB a = true) (hb : okB b = true) : ordL a b = ordV a b := by
  obtain ⟨k, n, s⟩ := a
  obtain ⟨l, m, t⟩ := b
  rcases okB_spec ha with ⟨h1, h2, h3⟩ | ⟨h1, h2, h2', h3⟩ | ⟨h1, h2, h3⟩ <;> rcases okB_spec hb with ⟨g1, g2, g3⟩ | ⟨g1, g2, g2', g3⟩ | ⟨g1, g2, g3⟩ <;> simp only at h1 h2 h3 g1 g2 g3 <;> subst h1 <;> subst g1
  all_goals simp [ordL, ordV, or3, cmpI, cmpS, eqV, h2, h3, g2, g3, bytesLess_self]
  by_cases h5 : n < m
  · simp [h5]
  · by_cases h6 : m < n
    · simp [h5, h6]; omega
    · simp [h5, h6]; omega
theorem sLess3_any (k n : Int) (s : ByteArray) (l m : Int) (t : ByteArray) (w : World) :
    Calls Tryz.prog 190 #[.agg #[.int .i64 k, .int .i64 n, .string s], .agg #[.int .i64 l, .int .i64 m, .string t]] w (Ret w (.int .i64 (less3 ⟨k, n, s⟩ ⟨l, m, t⟩))) := by
  go_enter Tryz.func190, Tryz.ntmps190
  go_wp2_with fail
  generalize hW : World.alloc (World.alloc w _) _ = W
  obtain ⟨hg, hs, hs', k1, k2⟩ := boxed2 hW
  clear hW
  have hcur := Grow.refl W
  go_wp2_with (first | (go_at_call 116; (with_reducible refine (sValOk_any _ _ _ _).mono ?_); rintro e w1 ⟨rfl, hb⟩; replace hcur := hcur.trans hb; replace hc := hcur.same; clear hb) | (go_at_call 197; (with_reducible refine (l1Order_any _ _ _ _ _ _ _).mono ?_); rintro e w1 ⟨rfl, hb⟩; replace hcur := hcur.trans hb; replace hc := hcur.same; clear hb) | (go_at_call 177; (with_reducible refine (l1Yes_any _ _).mono ?_); rintro e w1 ⟨rfl, rfl⟩))
  all_goals go_ret
  all_goals refine ⟨ret_int ?_, hg.trans hcur⟩
  all_goals (have ho := @ordL_eq ⟨k, n, s⟩ ⟨l, m, t⟩; simp_all [less3, knownB])
end Go.Proofs.YtjeilgogjoidjaaGreat
