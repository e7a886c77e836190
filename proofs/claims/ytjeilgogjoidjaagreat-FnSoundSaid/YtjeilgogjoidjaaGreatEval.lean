import Derived.Test.YtjeilgogjoidjaaGreatExpr
import Derived.Test.YtjeilgogjoidjaaGreatValLists
/-! Evaluation of expressions. -/
namespace Go.Proofs.YtjeilgogjoidjaaGreat
open Go.RowKit
set_option linter.unusedVariables false
set_option linter.unusedSimpArgs false

/-- The truth of a value, -1: none. -/
def truthV (v : Val) : Int := if v.kind = 0 then 2 else if v.kind = 1 then (if v.n = 0 then 0 else 1) else -1
def vNull : Val := ⟨0, 0, ⟨#[]⟩⟩
def vInt (n : Int) : Val := ⟨1, n, ⟨#[]⟩⟩
def valT (t : Int) : Option Val := if t = 2 then some vNull else if 0 ≤ t then some (vInt t) else none
def sumV (a b : Val) (sign : Int) : Option Val :=
  if a.kind = 2 ∨ b.kind = 2 then none else if a.kind = 0 ∨ b.kind = 0 then some vNull
  else if okB (vInt (a.n + sign * b.n)) then some (vInt (a.n + sign * b.n)) else none
/-- What a token of two makes of two right values. -/
def two (kind : Int) (a b : Val) : Option Val :=
  if kind = 3 then valT (eq3 a b) else if kind = 4 then valT (less3 a b) else if kind = 5 then valT (and3 (truthV a) (truthV b)) else if kind = 6 then valT (or3T (truthV a) (truthV b))
  else if kind = 9 then sumV a b 1 else sumV a b (-1)
theorem boxed4 {w W : World} {c d f g : Array Value} {t u v x : TypeId} (hW : (((w.alloc (.cells c t)).alloc (.cells d u)).alloc (.cells f v)).alloc (.cells g x) = W) :
    Grow w W ∧ w.heap.size + 1 + 1 < W.heap.size ∧ w.heap.size + 1 + 1 + 1 < W.heap.size ∧ W.heap[w.heap.size + 1 + 1]? = some (.cells f v (0, 0)) ∧ W.heap[w.heap.size + 1 + 1 + 1]? = some (.cells g x (0, 0)) := by
  subst hW
  obtain ⟨g1, _, _, s2, _, _, b2⟩ := boxed3 (w := w) (c := c) (d := d) (f := f) (t := t) (u := u) (v := v) rfl
  have ga := (Grow.refl (((w.alloc (.cells c t)).alloc (.cells d u)).alloc (.cells f v))).alloc (.cells g x)
  refine ⟨g1.alloc _, Nat.lt_of_lt_of_le s2 ga.size, by simp, ?_, ?_⟩
  · rw [ga.block s2]; exact b2
  · have := new_block (((w.alloc (.cells c t)).alloc (.cells d u)).alloc (.cells f v)) (.cells g x)
    simpa using this
theorem truth_any (k n : Int) (s : ByteArray) (w : World) : Calls Tryz.prog 158 #[.agg #[.int .i64 k, .int .i64 n, .string s]] w (Ret w (.int .i64 (truthV ⟨k, n, s⟩))) := by
  have hcur := Grow.refl w
  go_enter Tryz.func158, Tryz.ntmps158
  go_wp2_with (first | (go_at_call 174; (with_reducible refine (truthOf_any _ _).mono ?_); rintro e w1 ⟨rfl, rfl⟩))
  all_goals go_ret
  all_goals refine ⟨ret_int ?_, (by repeat (with_reducible first | exact Grow.refl _ | assumption | refine Grow.drew ?_ | refine Grow.alloc ?_ _ | refine Grow.set ?_ (by first | exact Nat.le_refl _ | (simp; done) | (simp; omega) | omega) _ | exact And.left (by assumption) | refine Grow.trans ?_ (by assumption)))⟩
  all_goals simp_all [truthV]
def optV (o : Option Val) (w : World) (e : Ending) (w' : World) : Prop :=
  (match o with | some v => e = .returned (.tuple #[.agg #[.int .i64 v.kind, .int .i64 v.n, .string v.s], .bool true]) | none => ∃ k n s, e = .returned (.tuple #[.agg #[.int .i64 k, .int .i64 n, .string s], .bool false])) ∧ Grow w w'
theorem optV_some {w w' : World} {k n : Int} {s : ByteArray} {o : Option Val} (ho : o = some ⟨k, n, s⟩) (hg : Grow w w') : optV o w (.returned (.tuple #[.agg #[.int .i64 k, .int .i64 n, .string s], .bool true])) w' := by
  subst ho; exact ⟨rfl, hg⟩
theorem optV_none {w w' : World} {k n : Int} {s : ByteArray} {o : Option Val} (ho : o = none) (hg : Grow w w') : optV o w (.returned (.tuple #[.agg #[.int .i64 k, .int .i64 n, .string s], .bool false])) w' := by
  subst ho; exact ⟨⟨k, n, s, rfl⟩, hg⟩
theorem optV_ite {w w' : World} {k n : Int} {s : ByteArray} {o : Option Val} {c : Bool} (ho : o = if c then some ⟨k, n, s⟩ else none) (hg : Grow w w') : optV o w (.returned (.tuple #[.agg #[.int .i64 k, .int .i64 n, .string s], .bool c])) w' := by
  subst ho; cases c
  · exact ⟨⟨k, n, s, rfl⟩, hg⟩
  · exact ⟨rfl, hg⟩
theorem valOf_any (t : Int) (w : World) (ht : t = -1 ∨ t = 0 ∨ t = 1 ∨ t = 2) : Calls Tryz.prog 182 #[.int .i64 t] w (optV (valT t) w) := by
  rcases ht with rfl | rfl | rfl | rfl
  all_goals
    go_enter Tryz.func182, Tryz.ntmps182
    go_wp2
  · exact bodyPost_ret (v := .tuple #[.agg #[.int .i64 1, .int .i64 (-1), .string ⟨#[]⟩], .bool false]) (by simp [results, Tryz.results182, go_sem]) rfl (optV_none rfl (by repeat (with_reducible first | exact Grow.refl _ | assumption | refine Grow.drew ?_ | refine Grow.alloc ?_ _ | refine Grow.set ?_ (by first | exact Nat.le_refl _ | (simp; done) | (simp; omega) | omega) _ | exact And.left (by assumption) | refine Grow.trans ?_ (by assumption))))
  · exact bodyPost_ret (v := .tuple #[.agg #[.int .i64 1, .int .i64 0, .string ⟨#[]⟩], .bool true]) (by simp [results, Tryz.results182, go_sem]) rfl (optV_some rfl (by repeat (with_reducible first | exact Grow.refl _ | assumption | refine Grow.drew ?_ | refine Grow.alloc ?_ _ | refine Grow.set ?_ (by first | exact Nat.le_refl _ | (simp; done) | (simp; omega) | omega) _ | exact And.left (by assumption) | refine Grow.trans ?_ (by assumption))))
  · exact bodyPost_ret (v := .tuple #[.agg #[.int .i64 1, .int .i64 1, .string ⟨#[]⟩], .bool true]) (by simp [results, Tryz.results182, go_sem]) rfl (optV_some rfl (by repeat (with_reducible first | exact Grow.refl _ | assumption | refine Grow.drew ?_ | refine Grow.alloc ?_ _ | refine Grow.set ?_ (by first | exact Nat.le_refl _ | (simp; done) | (simp; omega) | omega) _ | exact And.left (by assumption) | refine Grow.trans ?_ (by assumption))))
  · exact bodyPost_ret (v := .tuple #[.agg #[.int .i64 0, .int .i64 0, .string ⟨#[]⟩], .bool true]) (by simp [results, Tryz.results182, go_sem]) rfl (optV_some rfl (by repeat (with_reducible first | exact Grow.refl _ | assumption | refine Grow.drew ?_ | refine Grow.alloc ?_ _ | refine Grow.set ?_ (by first | exact Nat.le_refl _ | (simp; done) | (simp; omega) | omega) _ | exact And.left (by assumption) | refine Grow.trans ?_ (by assumption))))
theorem okB_n {v : Val} (h : okB v = true) : -1000000000 ≤ v.n ∧ v.n ≤ 1000000000 := by rcases okB_spec h with h | h | h <;> omega
set_option maxHeartbeats 2000000 in
theorem sumOf_any (a b : Val) (sign : Int) (w : World) (ha : okB a = true) (hb : okB b = true) (hs : sign = 1 ∨ sign = -1) :
    Calls Tryz.prog 188 #[.agg #[.int .i64 a.kind, .int .i64 a.n, .string a.s], .agg #[.int .i64 b.kind, .int .i64 b.n, .string b.s], .int .i64 sign] w (optV (sumV a b sign) w) := by
  have na := okB_n ha
  have nb := okB_n hb
  obtain ⟨k, n, s⟩ := a
  obtain ⟨l, m, t⟩ := b
  dsimp only at na nb ⊢
  obtain ⟨na0, na1⟩ := na
  obtain ⟨nb0, nb1⟩ := nb
  clear ha hb
  by_cases h1 : k = 2 ∨ l = 2
  · have ho := Lib.hid (show sumV ⟨k, n, s⟩ ⟨l, m, t⟩ sign = none by simp [sumV, h1])
    by_cases hk : k = 2
    · subst hk
      clear h1 hs
      go_enter Tryz.func188, Tryz.ntmps188
      go_wp2
      exact bodyPost_ret (v := .tuple #[.agg #[.int .i64 0, .int .i64 0, .string ⟨#[]⟩], .bool false]) (by simp [results, Tryz.results188, go_sem]) rfl (optV_none ho.out (by repeat (with_reducible first | exact Grow.refl _ | assumption | refine Grow.drew ?_ | refine Grow.alloc ?_ _ | refine Grow.set ?_ (by first | exact Nat.le_refl _ | (simp; done) | (simp; omega) | omega) _ | exact And.left (by assumption) | refine Grow.trans ?_ (by assumption))))
    · have hl : l = 2 := by omega
      subst hl
      have hk' : (k == 2) = false := by simpa using hk
      clear h1 hs hk
      go_enter Tryz.func188, Tryz.ntmps188
      go_wp2
      exact bodyPost_ret (v := .tuple #[.agg #[.int .i64 0, .int .i64 0, .string ⟨#[]⟩], .bool false]) (by simp [results, Tryz.results188, go_sem]) rfl (optV_none ho.out (by repeat (with_reducible first | exact Grow.refl _ | assumption | refine Grow.drew ?_ | refine Grow.alloc ?_ _ | refine Grow.set ?_ (by first | exact Nat.le_refl _ | (simp; done) | (simp; omega) | omega) _ | exact And.left (by assumption) | refine Grow.trans ?_ (by assumption))))
  have hk2 : (k == 2) = false := by simp; omega
  have hl2 : (l == 2) = false := by simp; omega
  by_cases h2 : k = 0 ∨ l = 0
  · have ho := Lib.hid (show sumV ⟨k, n, s⟩ ⟨l, m, t⟩ sign = some ⟨0, 0, ⟨#[]⟩⟩ by simp [sumV, h1, h2, vNull])
    by_cases hk : k = 0
    · subst hk
      clear h1 h2 hs
      go_enter Tryz.func188, Tryz.ntmps188
      go_wp2
      exact bodyPost_ret (v := .tuple #[.agg #[.int .i64 0, .int .i64 0, .string ⟨#[]⟩], .bool true]) (by simp [results, Tryz.results188, go_sem]) rfl (optV_some ho.out (by repeat (with_reducible first | exact Grow.refl _ | assumption | refine Grow.drew ?_ | refine Grow.alloc ?_ _ | refine Grow.set ?_ (by first | exact Nat.le_refl _ | (simp; done) | (simp; omega) | omega) _ | exact And.left (by assumption) | refine Grow.trans ?_ (by assumption))))
    · have hl : l = 0 := by omega
      subst hl
      have hk' : (k == 0) = false := by simpa using hk
      clear h1 h2 hs hk
      go_enter Tryz.func188, Tryz.ntmps188
      go_wp2
      exact bodyPost_ret (v := .tuple #[.agg #[.int .i64 0, .int .i64 0, .string ⟨#[]⟩], .bool true]) (by simp [results, Tryz.results188, go_sem]) rfl (optV_some ho.out (by repeat (with_reducible first | exact Grow.refl _ | assumption | refine Grow.drew ?_ | refine Grow.alloc ?_ _ | refine Grow.set ?_ (by first | exact Nat.le_refl _ | (simp; done) | (simp; omega) | omega) _ | exact And.left (by assumption) | refine Grow.trans ?_ (by assumption))))
  have hk0 : (k == 0) = false := by simp; omega
  have hl0 : (l == 0) = false := by simp; omega
  have ho := Lib.hid (show sumV ⟨k, n, s⟩ ⟨l, m, t⟩ sign = if okB (vInt (n + sign * m)) then some (vInt (n + sign * m)) else none by simp [sumV, h1, h2])
  clear h1 h2
  rcases hs with rfl | rfl
  all_goals
    go_enter Tryz.func188, Tryz.ntmps188
    go_wp2
    generalize hW : World.alloc _ _ = W
    obtain ⟨hg, s2, s3, b2, b3⟩ := boxed4 hW
    clear hW
    obtain ⟨k2, f2⟩ := free_of b2
    obtain ⟨k3, f3⟩ := free_of b3
    clear b2 b3
    go_region_with ((go_at_call 104; refine (iValOk_any _ _ _ _).mono ?_; rintro e w4 ⟨rfl, hb⟩; have hbw := (Grow.refl W).drew.trans hb; clear hb; have m2 : ∀ o, w4.cell? ⟨w.heap.size + 1 + 1, o, none⟩ = _ := fun o => (hbw.same _ _ s2).trans (k2 o); have m3 : ∀ o, w4.cell? ⟨w.heap.size + 1 + 1 + 1, o, none⟩ = _ := fun o => (hbw.same _ _ s3).trans (k3 o); have n2 : ∀ o, w4.frozen? ⟨w.heap.size + 1 + 1, o, none⟩ = _ := fun o => (hbw.sameF _ _ s2).trans (f2 o)))
    all_goals go_wp2
    all_goals exact bodyPost_ret (v := .tuple #[.agg #[.int .i64 1, .int .i64 _, .string ⟨#[]⟩], .bool (okB ⟨1, _, ⟨#[]⟩⟩)]) (by simp [results, Tryz.results188, go_sem, Act.put, m2]) rfl (optV_ite ho.out (by repeat (with_reducible first | exact Grow.refl _ | assumption | refine Grow.drew ?_ | refine Grow.alloc ?_ _ | refine Grow.set ?_ (by first | exact Nat.le_refl _ | (simp; done) | (simp; omega) | omega) _ | exact And.left (by assumption) | refine Grow.trans ?_ (by assumption))))
end Go.Proofs.YtjeilgogjoidjaaGreat
