import Derived.Test.YtjeilgogjoidjaaBundleA
import Derived.ArgAppend
/-! An append to a slice without room. -/
namespace Go.Proofs.Ytjeilgogjoidjaa
open Go.RowKit
set_option linter.unusedVariables false
set_option linter.unusedSimpArgs false
theorem run_appN {P : Program} {α : Type} {k : Kd α} (ho : Ones k) {t E ty : TypeId} {bytes : Nat} (he : ElemOk P t E k.n bytes) {S : Nat → Prop} {w : World} (hS : ∀ b, S b → b < w.heap.size) {A B : Option Addr} {n m cb : Nat} {xs ys : List α}
    (own : IsSl k w S A n n xs) (src : IsSl k w S B m cb ys) (hm : 0 < m) (h63 : n + m ≤ maxLen) (hb : (n + m) * bytes ≤ 140737488355328) :
    ∃ A' c' w', (Builtin.append_ #[t, t] ty #[.slice A n n, .slice B m cb]).run P w = .ok (.slice A' (n + m) c') w' ∧ IsSl k w' (fun b => S b ∨ w.heap.size ≤ b ∧ b < w'.heap.size ∧ ∀ o, w'.frozen? ⟨b, o, none⟩ = false) A' (n + m) c' (xs ++ ys) ∧ Grow w w' := by
  obtain ⟨i, z, ht, hi, hz, hsz, hby, hzs, h0⟩ := he
  obtain ⟨b, off, rfl, _, hxs⟩ := src.2.2.2 hm
  obtain ⟨news, hf, hn⟩ := flat_cells ys off hxs
  have hnl : news.length = m * k.n := by rw [hf.length, src.1]
  have hnews : ∀ j u, news[j]? = some u → w.cell? ((⟨b, off, none⟩ : Addr).add j) = some u := fun j u hj => by
    have := hn j u hj
    rw [← this]
    unfold Addr.add; split <;> simp_all
  have key : ∃ v' w' olds, (Builtin.append_ #[t, t] ty #[.slice A n n, .slice (some ⟨b, off, none⟩) m cb]).run P w = .ok v' w' ∧ w'.ownsRow w.heap.size E k.n v' (n + m) (olds ++ news) ∧ w.grownBy w' none ∧ Flat k w S olds xs := by
    rcases Nat.eq_zero_or_pos n with h1 | h1
    · subst h1
      obtain rfl : xs = [] := List.eq_nil_of_length_eq_zero own.1
      cases A with
      | none =>
        obtain ⟨v', w', hrun, r1, r2, _⟩ := run_append_own (P := P) w w.heap.size t ty E i z k.n bytes ht hi hz hsz hby hzs h0 (.slice none 0 0) 0 [] (World.ownsRow_nil w _ E k.n) ⟨b, off, none⟩ m cb news hnl hnews (flat_ones ho hf) h63 hb (Nat.le_refl _)
        exact ⟨v', w', [], hrun, r1, r2, rfl⟩
      | some ad =>
        obtain ⟨v', w', hrun, r1, r2⟩ := run_append_arg_grows (P := P) w t ty E i z k.n bytes ht hi hz hsz hby hzs h0 ad 0 0 [] (by simp) (fun j u hj => by simp at hj) ⟨b, off, none⟩ m cb news hnl hnews (by omega) h63 hb
        exact ⟨v', w', [], hrun, r1, r2, rfl⟩
    · obtain ⟨b', off', rfl, _, hxo⟩ := own.2.2.2 h1
      obtain ⟨olds, hfo, hno⟩ := flat_cells xs off' hxo
      obtain ⟨v', w', hrun, r1, r2⟩ := run_append_arg_grows (P := P) w t ty E i z k.n bytes ht hi hz hsz hby hzs h0 ⟨b', off', none⟩ n n olds (by rw [hfo.length, own.1]) (fun j u hj => by
        have := hno j u hj
        rw [← this]
        unfold Addr.add; split <;> simp_all) ⟨b, off, none⟩ m cb news hnl hnews (by omega) h63 hb
      exact ⟨v', w', olds, hrun, r1, r2, hfo⟩
  obtain ⟨v', w', olds, hrun, r1, r2, hfo⟩ := key
  have hg : Grow w w' := Below.grown (Grow.refl w) r2 (Nat.le_refl _) (fun k hk => by cases hk)
  obtain ⟨A', c', rfl⟩ : ∃ A' c', v' = .slice A' (n + m) c' := by
    obtain ⟨_, ⟨_, h2⟩ | ⟨g, cap', cur, hv, _⟩⟩ := r1
    · omega
    · exact ⟨_, _, hv⟩
  refine ⟨A', c', w', hrun, own_isSl r1 (S := S) ?_ (by rw [List.length_append, own.1, src.1]) (fun b hb => .inl hb) (fun b h1 h2 h3 => .inr ⟨h1, h2, h3⟩), hg⟩
  exact (flat_append hfo hf).mono (fun _ h => h) (fun b hb => hg.block (hS b hb))
section
variable {P : Program} {α : Type} {k : Kd α} {t E : TypeId} {bytes : Nat} {S : Nat → Prop} {w : World} {A B : Option Addr} {n m cb : Nat} {xs ys : List α}
theorem wp_appN (ho : Ones k) (he : ElemOk P t E k.n bytes) {o : Oper} {a : Act} {K : Act → World → Prop} {Q : Exit → Act → World → Prop} (s x : Operand)
    (hop : o.op = .call { callee := .builtin .append, args := #[s, x], argTypes := #[t, t] }) (hs : a.eval s = .slice A n n) (own : IsSl k w S A n n xs) (hS : ∀ b, S b → b < w.heap.size) (hx : a.eval x = .slice B m cb) (src : IsSl k w S B m cb ys) (hm : 0 < m) {q : Nat} (hq : n + m = q) (h63 : q ≤ maxLen) (hb : q * bytes ≤ 140737488355328)
    (h : ∀ A' c' w', IsSl k w' (fun b => S b ∨ w.heap.size ≤ b ∧ b < w'.heap.size ∧ ∀ o, w'.frozen? ⟨b, o, none⟩ = false) A' q c' (xs ++ ys) → Grow w w' → K (a.put o.dst (.slice A' q c')) w') : o.wp P a w K Q := by
  subst hq
  obtain ⟨A', c', w', hr, h1, h2⟩ := run_appN (P := P) (ty := o.type) ho he hS own src hm h63 hb
  unfold Oper.wp execOp
  simp only [hop, resolve, invoke, builtin, Sem.run_bind, Sem.run_pure, Result.andThen_ok, List.map_toArray, List.map_cons, List.map_nil, hs, hx, hr]
  exact h A' c' w' h1 h2
theorem step_appN (ho : Ones k) (he : ElemOk P t E k.n bytes) {ops : Array Oper} {o : Oper} {a : Act} {K : Act → World → Prop} {Q : Exit → Act → World → Prop} {Z : Prop} (hgd : o.guard = none) (s x : Operand)
    (hop : o.op = .call { callee := .builtin .append, args := #[s, x], argTypes := #[t, t] }) (hs : a.eval s = .slice A n n) (own : IsSl k w S A n n xs) (hS : ∀ b, S b → b < w.heap.size) (hx : a.eval x = .slice B m cb) (src : IsSl k w S B m cb ys) (hm : 0 < m) {q : Nat} (hq : n + m = q) (h63 : q ≤ maxLen) (hb : q * bytes ≤ 140737488355328)
    (h : ∀ A' c' w', IsSl k w' (fun b => S b ∨ w.heap.size ≤ b ∧ b < w'.heap.size ∧ ∀ o, w'.frozen? ⟨b, o, none⟩ = false) A' q c' (xs ++ ys) → Grow w w' → K (a.put o.dst (.slice A' q c')) w') : if Region.wanted o (yielded ops a.tmps) = true then Oper.wp P o a w K Q else Z := by
  have hw : Region.wanted o (yielded ops a.tmps) = true := by simp [Region.wanted, hgd]
  rw [if_pos hw]
  exact wp_appN ho he s x hop hs own hS hx src hm hq h63 hb h
end
end Go.Proofs.Ytjeilgogjoidjaa
