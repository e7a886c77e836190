import Derived.Test.YtjeilgogjoidjaaGreatTru
import Derived.IntWalk
/-! The reference's reader of bytes, by which it draws: what it hands back lies in its bounds. -/
namespace Go.Proofs.YtjeilgogjoidjaaGreat
open Go.RowKit
set_option linter.unusedVariables false
set_option linter.unusedSimpArgs false

/-- As Grow, but for block g. -/
structure GrowX (g : Nat) (w w' : World) : Prop where
  os : w'.os = w.os
  tape : w'.tape = w.tape
  output : w'.output = w.output
  size : w.heap.size ≤ w'.heap.size
  block : ∀ b, b < w.heap.size → b ≠ g → w'.heap[b]? = w.heap[b]?
theorem GrowX.refl (g : Nat) (w : World) : GrowX g w w := ⟨rfl, rfl, rfl, Nat.le_refl _, fun _ _ _ => rfl⟩
theorem GrowX.trans {g : Nat} {a b c : World} (h : GrowX g a b) (k : GrowX g b c) : GrowX g a c :=
  ⟨k.os.trans h.os, k.tape.trans h.tape, k.output.trans h.output, Nat.le_trans h.size k.size, fun i hi hn => (k.block i (Nat.lt_of_lt_of_le hi h.size) hn).trans (h.block i hi hn)⟩
theorem GrowX.of {g : Nat} {w w' : World} (h : Grow w w') : GrowX g w w' := ⟨Below.os h, Below.tape h, Below.output h, h.size, fun b hb _ => h.block hb⟩
theorem GrowX.drew {g : Nat} {a w : World} (h : GrowX g a w) : GrowX g a w.drew := h.trans (GrowX.of (Grow.refl w).drew)
theorem GrowX.alloc {g : Nat} {a w : World} (h : GrowX g a w) (o : Obj) : GrowX g a (w.alloc o) := h.trans (GrowX.of ((Grow.refl w).alloc o))
theorem GrowX.set {g : Nat} {a w : World} (h : GrowX g a w) (o : Nat) (u : Value) : GrowX g a (w.setCell ⟨g, o, none⟩ u) :=
  h.trans ⟨rfl, rfl, rfl, by simp [World.setCell], fun b hb hn => Below.heap_setCell _ _ _ _ hn⟩
/-- What is written lies behind the world at the start. -/
theorem GrowX.grow {g : Nat} {w0 w w' : World} (h : GrowX g w w') (h0 : Grow w0 w) (hg : w0.heap.size ≤ g) : Grow w0 w' :=
  ⟨h.os.trans (Below.os h0), h.tape.trans (Below.tape h0), h.output.trans (Below.output h0), Nat.le_trans h0.size h.size, fun k hk => by
    rw [h.block k (Nat.lt_of_lt_of_le hk h0.size) (by omega)]; exact h0.block hk⟩
theorem GrowX.cell {g : Nat} {w w' : World} (h : GrowX g w w') {b o : Nat} (hb : b < w.heap.size) (hn : b ≠ g) : w'.cell? ⟨b, o, none⟩ = w.cell? ⟨b, o, none⟩ :=
  World.cell?_of_block (w := w) (h.block b hb hn)

/-- Block g is a reader: its bytes lie elsewhere, and it stands within them. -/
def IsRd (w : World) (g : Nat) : Prop :=
  ∃ (A : Option Addr) (len cap : Nat) (xs : List Int) (p : Nat), p ≤ len ∧ w.heap[g]? = some (.cells #[.slice A len cap, .int .i64 p] 103 (0, 0)) ∧
    IsSl Kd.byte w (· < g) A len cap xs
theorem rdbyte_at {w : World} {S : Nat → Prop} {len cap : Nat} {A : Option Addr} {xs : List Int} (h : IsSl Kd.byte w S A len cap xs) {i : Nat} (hi : i < len) :
    ∃ b off x, A = some ⟨b, off, none⟩ ∧ S b ∧ 0 ≤ x ∧ x < 256 ∧ w.cell? ⟨b, off + i, none⟩ = some (.int .u8 x) := by
  obtain ⟨b, off, x, cs, hA, hb, hx, hc, hr⟩ := h.elem hi
  have := hc 0 (by decide)
  simp only [Kd.byte] at hr
  obtain ⟨rfl, h0, h1⟩ := hr
  exact ⟨b, off, x, hA, hb, h0, h1, by simpa [Kd.byte] using this⟩
theorem IsRd.lt {w : World} {g : Nat} (h : IsRd w g) : g < w.heap.size := by
  obtain ⟨A, len, cap, xs, p, _, hb, _⟩ := h
  rcases Nat.lt_or_ge g w.heap.size with h' | h'
  · exact h'
  · simp [Array.getElem?_eq_none h'] at hb
theorem IsRd.keep {w w' : World} {g : Nat} (h : IsRd w g) (hw : ∀ b, b ≤ g → w'.heap[b]? = w.heap[b]?) : IsRd w' g := by
  obtain ⟨A, len, cap, xs, p, h1, h3, h4⟩ := h
  exact ⟨A, len, cap, xs, p, h1, by rw [hw g (Nat.le_refl _)]; exact h3, h4.mono (fun b hb => hb) fun b hb => hw b (Nat.le_of_lt hb)⟩
theorem IsRd.of_grow {w w' : World} {g : Nat} (h : IsRd w g) (hg : Grow w w') : IsRd w' g := h.keep fun b hb => hg.block (Nat.lt_of_le_of_lt hb h.lt)
/-- A store into a block behind the reader's. -/
theorem IsRd.set {w : World} {g : Nat} (h : IsRd w g) {p : Addr} (hp : g < p.block) (u : Value) : IsRd (w.setCell p u) g :=
  h.keep fun b hb => Below.heap_setCell _ _ _ _ (by omega)
theorem GrowX.setOwn {g : Nat} {a w : World} (h : GrowX g a w) {p : Addr} (hp : a.heap.size ≤ p.block) (u : Value) : GrowX g a (w.setCell p u) :=
  ⟨h.os, h.tape, h.output, by simpa [World.setCell] using h.size, fun b hb hn => (Below.heap_setCell _ _ _ _ (by omega)).trans (h.block b hb hn)⟩
/-- A number is handed back, of which P is true; the reader has gone on. -/
def RdInt (g : Nat) (w : World) (P : Int → Prop) (e : Ending) (w' : World) : Prop := ∃ r : Int, e = .returned (.int .i64 r) ∧ P r ∧ GrowX g w w' ∧ IsRd w' g
theorem rd_set {w W : World} {g : Nat} {v0 v1 v2 : Value} (h : w.heap[g]? = some (.cells #[v0, v1] 103 (0, 0))) (hW : (w.setCell ⟨g, 1, none⟩ v2).drew = W) :
    GrowX g w W ∧ W.heap[g]? = some (.cells #[v0, v2] 103 (0, 0)) ∧ W.cell? ⟨g, 0, none⟩ = some v0 ∧ W.cell? ⟨g, 1, none⟩ = some v2 := by
  subst hW
  have hl : g < w.heap.size := by
    rcases Nat.lt_or_ge g w.heap.size with h' | h'
    · exact h'
    · simp [Array.getElem?_eq_none h'] at h
  have H : ((w.setCell ⟨g, 1, none⟩ v2).drew).heap[g]? = some (.cells #[v0, v2] 103 (0, 0)) := by
    show ((w.setCell ⟨g, 1, none⟩ v2)).heap[g]? = _
    simp [World.setCell, Array.getElem?_modify, h]
  exact ⟨((GrowX.refl g w).set 1 v2).drew, H, by unfold World.cell?; rw [H]; rfl, by unfold World.cell?; rw [H]; rfl⟩
theorem next_any (g : Nat) (w : World) (h : IsRd w g) : Calls Tryz.prog 126 #[.pointer (some ⟨g, 0, none⟩)] w (RdInt g w fun r => 0 ≤ r ∧ r < 256) := by
  have hl := h.lt
  obtain ⟨A, len, cap, xs, p, h1, h3, h4⟩ := h
  have c0 : w.cell? ⟨g, 0, none⟩ = some (.slice A len cap) := by simp [World.cell?, h3]
  have c1 : w.cell? ⟨g, 1, none⟩ = some (.int .i64 p) := by simp [World.cell?, h3]
  have hlen : len ≤ maxLen := Nat.le_trans h4.2.1 h4.2.2.1
  unfold maxLen at hlen
  have f1 : w.frozen? ⟨g, 1, none⟩ = false := by simp [World.frozen?, h3]
  have HB := Lib.hid h3
  clear h3
  by_cases hp : p < len
  · obtain ⟨b, off, x, rfl, hb, hx0, hx1, hc⟩ := rdbyte_at h4 hp
    have hb1 : b < w.heap.size := Nat.lt_trans hb hl
    have hb2 : b ≠ g := Nat.ne_of_lt hb
    go_enter Tryz.func126, Tryz.ntmps126
    go_wp2
    go_region_held3 (fun w' => Grow w w' ∧ Same w w') (exact Grow.both (by repeat (with_reducible first | exact Grow.refl _ | assumption | refine Grow.drew ?_ | refine Grow.alloc ?_ _ | refine Grow.set ?_ (by first | exact Nat.le_refl _ | (simp; done) | (simp; omega) | omega) _ | exact And.left (by assumption) | refine Grow.trans ?_ (by assumption)))) (fail)
    go_wp2
    generalize hW : World.drew (World.setCell w _ _) = W
    obtain ⟨hG, H', k0, k1⟩ := rd_set HB.out hW
    have hl' : g < W.heap.size := Nat.lt_of_lt_of_le hl hG.size
    have hb' : b < W.heap.size := Nat.lt_of_lt_of_le hb1 hG.size
    have kc := hG.cell (o := off + p) hb1 hb2
    rw [hc] at kc
    have H'' := Lib.hid H'
    clear hW H' c0 c1 f1 hc
    have i0 : (0 : Int) ≤ (p : Int) := Int.natCast_nonneg p
    have i1 : (p : Int) < (len : Int) := Int.ofNat_lt.mpr hp
    have i3 : IntKind.i64.wrap (p : Int) = p := IntWalk.i64_in _ (by omega)
    have i2 : IntKind.i64.wrap ((p : Int) + 1 - 1) = p := by rw [Int.add_sub_cancel]; exact IntWalk.i64_in _ (by omega)
    go_region
    go_wp2
    go_ret
    refine ⟨x, rfl, ⟨hx0, hx1⟩, hG.drew, IsRd.of_grow ⟨_, len, cap, xs, p + 1, by omega, by rw [H''.out]; rfl, h4.mono (fun b hb => hb) fun b hb => hG.block b (Nat.lt_trans hb hl) (Nat.ne_of_lt hb)⟩ (Grow.refl _).drew⟩
  · go_enter Tryz.func126, Tryz.ntmps126
    go_wp2
    go_region_held3 (fun w' => Grow w w' ∧ Same w w') (exact Grow.both (by repeat (with_reducible first | exact Grow.refl _ | assumption | refine Grow.drew ?_ | refine Grow.alloc ?_ _ | refine Grow.set ?_ (by first | exact Nat.le_refl _ | (simp; done) | (simp; omega) | omega) _ | exact And.left (by assumption) | refine Grow.trans ?_ (by assumption)))) (fail)
    go_wp2
    go_ret
    exact ⟨0, rfl, ⟨by decide, by decide⟩, (GrowX.refl _ _).drew, IsRd.of_grow ⟨A, len, cap, xs, p, h1, HB.out, h4⟩ (Grow.refl _).drew⟩
def RdBelow (n : Int) (r : Int) : Prop := 0 ≤ r ∧ (r < n ∨ r = 0)
theorem below_any (g : Nat) (n : Int) (w : World) (h : IsRd w g) (hn : n ≤ 65536) : Calls Tryz.prog 76 #[.pointer (some ⟨g, 0, none⟩), .int .i64 n] w (RdInt g w (RdBelow n)) := by
  go_enter Tryz.func76, Tryz.ntmps76
  go_wp2_with fail
  · go_ret
    exact ⟨0, rfl, ⟨by decide, .inr rfl⟩, GrowX.refl _ _, h⟩
  · refine (next_any g _ h).mono ?_
    rintro e w1 ⟨x, rfl, ⟨hx0, hx1⟩, hG, hR⟩
    go_wp2
    go_ret
    exact ⟨_, rfl, ⟨Int.emod_nonneg _ (by omega), .inl (Int.emod_lt_of_pos _ (by omega))⟩, hG, hR⟩
  · refine (next_any g _ h).mono ?_
    rintro e w1 ⟨x, rfl, ⟨hx0, hx1⟩, hG, hR⟩
    go_wp2_with fail
    refine (next_any g _ hR).mono ?_
    rintro e w2 ⟨y, rfl, ⟨hy0, hy1⟩, hG2, hR2⟩
    go_wp2
    go_ret
    exact ⟨_, rfl, ⟨Int.emod_nonneg _ (by omega), .inl (Int.emod_lt_of_pos _ (by omega))⟩, hG.trans hG2, hR2⟩
def RdBool (g : Nat) (w : World) (e : Ending) (w' : World) : Prop := ∃ r : Bool, e = .returned (.bool r) ∧ GrowX g w w' ∧ IsRd w' g
theorem once_any (g : Nat) (n : Int) (w : World) (h : IsRd w g) (hn : n ≤ 65536) (hm : 0 ≤ n) : Calls Tryz.prog 32 #[.pointer (some ⟨g, 0, none⟩), .int .i64 n] w (RdBool g w) := by
  go_enter Tryz.func32, Tryz.ntmps32
  go_wp2_with fail
  refine (below_any g n _ h hn).mono ?_
  rintro e w1 ⟨x, rfl, _, hG, hR⟩
  go_wp2
  go_ret
  exact ⟨_, rfl, hG, hR⟩
theorem word_any (g : Nat) (w : World) (h : IsRd w g) : Calls Tryz.prog 155 #[.pointer (some ⟨g, 0, none⟩)] w
    (fun e w' => ∃ r : Int, e = .returned (.int .u64 r) ∧ GrowX g w w' ∧ IsRd w' g) := by
  go_enter Tryz.func155, Tryz.ntmps155
  go_wp2
  go_loopw [3, 4] (fun x i wr => ∃ (k : Nat) (n : Int), k ≤ 8 ∧ i = .int .i64 k ∧ x = .int .u64 n ∧ GrowX g w wr ∧ IsRd wr g) (fun _ i _ => 8 - (intOf i).toNat)
  case atStart => exact ⟨0, 0, by decide, rfl, rfl, GrowX.refl _ _, h⟩
  case round =>
    obtain ⟨k, n, hk, rfl, rfl, hG, hR⟩ := hrel
    by_cases hlt : k < 8
    · go_wp2_with fail
      refine (next_any g _ hR).mono ?_
      rintro e w1 ⟨y, rfl, ⟨hy0, hy1⟩, hG2, hR2⟩
      go_wp2
      go_roundw
      case rel => exact ⟨k + 1, _, by omega, by go_num, rfl, hG.trans hG2, hR2⟩
      case measure => simp [intOf]; omega
    · go_wp2
      go_ret
      exact ⟨n, rfl, hG, hR⟩
theorem near_any (g : Nat) (a b : Int) (w : World) (h : IsRd w g) (ha : -2000000000 ≤ a ∧ a ≤ 2000000000) (hb : -2000000000 ≤ b ∧ b ≤ 2000000000) :
    Calls Tryz.prog 127 #[.pointer (some ⟨g, 0, none⟩), .int .i64 a, .int .i64 b] w (RdInt g w fun _ => True) := by
  obtain ⟨ha0, ha1⟩ := ha
  obtain ⟨hb0, hb1⟩ := hb
  go_enter Tryz.func127, Tryz.ntmps127
  go_wp2_with fail
  refine (below_any g 8 _ h (by decide)).mono ?_
  rintro e w1 ⟨x, rfl, _, hG, hR⟩
  go_wp2_with fail
  · go_ret
    exact ⟨a, rfl, trivial, hG, hR⟩
  · go_ret
    exact ⟨b, rfl, trivial, hG, hR⟩
  · go_ret
    exact ⟨a, rfl, trivial, hG, hR⟩
  · refine (word_any g _ hR).mono ?_
    rintro e w2 ⟨y, rfl, hG2, hR2⟩
    go_wp2
    go_ret
    exact ⟨_, rfl, trivial, hG.trans hG2, hR2⟩
theorem l1Open_any {A : Option Addr} {len cap : Nat} {xs : List Int} (w : World) (h : IsSl Kd.byte w (· < w.heap.size) A len cap xs) :
    Calls Tryz.prog 30 #[.slice A len cap] w fun e w' => ∃ g, e = .returned (.pointer (some ⟨g, 0, none⟩)) ∧ w.heap.size ≤ g ∧ Grow w w' ∧ IsRd w' g := by
  go_enter Tryz.func30, Tryz.ntmps30
  go_wp2
  go_ret
  exact ⟨w.heap.size, rfl, Nat.le_refl _, (Grow.refl _).alloc _, A, len, cap, xs, 0, Nat.zero_le _, new_block _ _, h.mono (fun b hb => hb) fun b hb => ((Grow.refl w).alloc _).block hb⟩
theorem off_any (g : Nat) (a b : Int) (w : World) (h : IsRd w g) (ha : -2000000000 ≤ a ∧ a ≤ 2000000000) (hb : -2000000000 ≤ b ∧ b ≤ 2000000000) :
    Calls Tryz.prog 77 #[.pointer (some ⟨g, 0, none⟩), .int .i64 a, .int .i64 b] w (RdInt g w fun _ => True) := by
  obtain ⟨ha0, ha1⟩ := ha
  obtain ⟨hb0, hb1⟩ := hb
  go_enter Tryz.func77, Tryz.ntmps77
  go_wp2_with fail
  refine (once_any g 24 _ h (by decide) (by decide)).mono ?_
  rintro e w1 ⟨x, rfl, hG, hR⟩
  cases x
  · go_wp2_with fail
    refine (near_any g _ _ _ hR ⟨ha0, ha1⟩ ⟨hb0, hb1⟩).mono ?_
    rintro e w2 ⟨y, rfl, _, hG2, hR2⟩
    go_wp2
    go_ret
    exact ⟨_, rfl, trivial, hG.trans hG2, hR2⟩
  · go_wp2_with fail
    generalize hW : World.alloc w1 _ = W
    obtain ⟨hg, hs, k1⟩ := boxed1 hW
    clear hW
    refine (below_any g 4 _ (hR.of_grow hg) (by decide)).mono ?_
    rintro e w2 ⟨y, rfl, hy, hG2, hR2⟩
    have hne : w1.heap.size ≠ g := Nat.ne_of_gt hR.lt
    have k2 : ∀ o, w2.cell? ⟨w1.heap.size, o, none⟩ = _ := fun o => (hG2.cell hs hne).trans (k1 o)
    clear k1
    obtain rfl | rfl | rfl | rfl : y = 0 ∨ y = 1 ∨ y = 2 ∨ y = 3 := by unfold RdBelow at hy; omega
    all_goals
      go_wp2
      go_ret
      exact ⟨_, rfl, trivial, (hG.trans (GrowX.of hg)).trans hG2, hR2⟩
theorem l1Str_any (s : ByteArray) (w : World) : Calls Tryz.prog 108 #[.string s] w (Ret w (.agg #[.int .i64 2, .int .i64 0, .string s])) := by
  go_enter Tryz.func108, Tryz.ntmps108
  go_wp2
  refine bodyPost_ret (v := .agg #[.int .i64 2, .int .i64 0, .string s]) (by simp [results, Tryz.results108, go_sem]) rfl ⟨rfl, (Grow.refl _).alloc _⟩
theorem l1Int_any (n : Int) (w : World) : Calls Tryz.prog 72 #[.int .i64 n] w (Ret w (.agg #[.int .i64 1, .int .i64 n, .string ⟨#[]⟩])) := by
  go_enter Tryz.func72, Tryz.ntmps72
  go_wp2
  refine bodyPost_ret (v := .agg #[.int .i64 1, .int .i64 n, .string ⟨#[]⟩]) (by simp [results, Tryz.results72, go_sem]) rfl ⟨rfl, (Grow.refl _).alloc _⟩
theorem l1Str_gen (s : ByteArray) (w : World) (h : s.size ≤ 12) : Calls Tryz.prog 108 #[.string s] w fun e w' => ∃ t : ByteArray, t.size ≤ 12 ∧ Ret w (.agg #[.int .i64 2, .int .i64 0, .string t]) e w' :=
  (l1Str_any s w).mono fun _ _ hr => ⟨s, h, hr⟩
theorem l1Int_gen (n : Int) (w : World) (h : -1000000000 ≤ n ∧ n ≤ 1000000000) : Calls Tryz.prog 72 #[.int .i64 n] w fun e w' => ∃ t : Int, (-1000000000 ≤ t ∧ t ≤ 1000000000) ∧ Ret w (.agg #[.int .i64 1, .int .i64 t, .string ⟨#[]⟩]) e w' :=
  (l1Int_any n w).mono fun _ _ hr => ⟨n, h, hr⟩
theorem okB_null : okB ⟨0, 0, ⟨#[]⟩⟩ = true := by simp [okB]
theorem okB_int {n : Int} (h : -1000000000 ≤ n ∧ n ≤ 1000000000) : okB ⟨1, n, ⟨#[]⟩⟩ = true := by simp [okB, h.1, h.2]
theorem okB_str {s : ByteArray} (h : s.size ≤ 12) : okB ⟨2, 0, s⟩ = true := by simp [okB, h]
def RdVal (g : Nat) (w : World) (e : Ending) (w' : World) : Prop := ∃ v : Val, e = .returned (.agg #[.int .i64 v.kind, .int .i64 v.n, .string v.s]) ∧ okB v = true ∧ v.s.size ≤ 12 ∧ GrowX g w w' ∧ IsRd w' g
theorem val_any (g : Nat) (w : World) (h : IsRd w g) : Calls Tryz.prog 109 #[.pointer (some ⟨g, 0, none⟩)] w (RdVal g w) := by
  go_enter Tryz.func109, Tryz.ntmps109
  go_wp2_with fail
  generalize hW : World.alloc w _ = W
  obtain ⟨hg, hs, hB⟩ := boxedB hW
  clear hW
  refine (below_any g 12 _ (h.of_grow hg) (by decide)).mono ?_
  rintro e w1 ⟨x, rfl, _, hG, hR⟩
  have hne : w.heap.size ≠ g := Nat.ne_of_gt h.lt
  obtain ⟨c1, f1⟩ := free_of ((hG.block _ hs hne).trans hB)
  have HB := Lib.hid hB
  clear hB
  have hgl := h.lt
  have hGw : GrowX g w w1 := (GrowX.of hg).trans hG
  go_wp2_with fail
  · exact bodyPost_ret (v := .agg #[.int .i64 0, .int .i64 0, .string ⟨#[]⟩]) (by simp [results, Tryz.results109, go_sem, c1]) rfl ⟨⟨0, 0, ⟨#[]⟩⟩, rfl, okB_null, by decide, ((hGw.setOwn (Nat.le_refl _) _).setOwn (Nat.le_refl _) _).setOwn (Nat.le_refl _) _, ((hR.set hgl _).set hgl _).set hgl _⟩
  · exact bodyPost_ret (v := .agg #[.int .i64 0, .int .i64 0, .string ⟨#[]⟩]) (by simp [results, Tryz.results109, go_sem, c1]) rfl ⟨⟨0, 0, ⟨#[]⟩⟩, rfl, okB_null, by decide, ((hGw.setOwn (Nat.le_refl _) _).setOwn (Nat.le_refl _) _).setOwn (Nat.le_refl _) _, ((hR.set hgl _).set hgl _).set hgl _⟩
  · generalize hW2 : World.alloc w1 _ = W2
    obtain ⟨hg2, hs2, k2⟩ := boxed1 hW2
    clear hW2
    refine (below_any g 6 _ (hR.of_grow hg2) (by decide)).mono ?_
    rintro e w2 ⟨y, rfl, hy, hG2, hR2⟩
    have k3 : ∀ o, w2.cell? ⟨w1.heap.size, o, none⟩ = _ := fun o => (hG2.cell hs2 (Nat.ne_of_gt hR.lt)).trans (k2 o)
    have hB2 : w2.heap[w.heap.size]? = _ := (hG2.block _ (Nat.lt_of_lt_of_le hs (Nat.le_trans hG.size hg2.size)) hne).trans ((hg2.block (Nat.lt_of_lt_of_le hs hG.size)).trans ((hG.block _ hs hne).trans HB.out))
    have HB2 := Lib.hid hB2
    have hlt2 : w.heap.size < w2.heap.size := Nat.lt_of_lt_of_le hs (Nat.le_trans hG.size (Nat.le_trans hg2.size hG2.size))
    clear k2 c1 f1 hB2
    obtain rfl | rfl | rfl | rfl | rfl | rfl : y = 0 ∨ y = 1 ∨ y = 2 ∨ y = 3 ∨ y = 4 ∨ y = 5 := by unfold RdBelow at hy; omega
    all_goals
      go_wp2_with fail
      refine (l1Str_gen _ _ (by decide)).mono ?_
      rintro e w3 ⟨s, hs12, rfl, hg3⟩
      obtain ⟨c3, f3⟩ := free_of ((hg3.block hlt2).trans HB2.out)
      have hR3 := hR2.of_grow hg3
      go_wp2
      exact bodyPost_ret (v := .agg #[.int .i64 2, .int .i64 0, .string s]) (by simp [results, Tryz.results109, go_sem, c3]) rfl ⟨⟨2, 0, s⟩, rfl, okB_str hs12, hs12, (((((hGw.trans (GrowX.of hg2)).trans hG2).trans (GrowX.of hg3)).setOwn (Nat.le_refl _) _).setOwn (Nat.le_refl _) _).setOwn (Nat.le_refl _) _, ((hR3.set hgl _).set hgl _).set hgl _⟩
  · generalize hW2 : World.alloc w1 _ = W2
    obtain ⟨hg2, hs2, k2⟩ := boxed1 hW2
    clear hW2
    refine (below_any g 6 _ (hR.of_grow hg2) (by decide)).mono ?_
    rintro e w2 ⟨y, rfl, hy, hG2, hR2⟩
    have k3 : ∀ o, w2.cell? ⟨w1.heap.size, o, none⟩ = _ := fun o => (hG2.cell hs2 (Nat.ne_of_gt hR.lt)).trans (k2 o)
    have hB2 : w2.heap[w.heap.size]? = _ := (hG2.block _ (Nat.lt_of_lt_of_le hs (Nat.le_trans hG.size hg2.size)) hne).trans ((hg2.block (Nat.lt_of_lt_of_le hs hG.size)).trans ((hG.block _ hs hne).trans HB.out))
    have HB2 := Lib.hid hB2
    have hlt2 : w.heap.size < w2.heap.size := Nat.lt_of_lt_of_le hs (Nat.le_trans hG.size (Nat.le_trans hg2.size hG2.size))
    clear k2 c1 f1 hB2
    obtain rfl | rfl | rfl | rfl | rfl | rfl : y = 0 ∨ y = 1 ∨ y = 2 ∨ y = 3 ∨ y = 4 ∨ y = 5 := by unfold RdBelow at hy; omega
    all_goals
      go_wp2_with fail
      refine (l1Str_gen _ _ (by decide)).mono ?_
      rintro e w3 ⟨s, hs12, rfl, hg3⟩
      obtain ⟨c3, f3⟩ := free_of ((hg3.block hlt2).trans HB2.out)
      have hR3 := hR2.of_grow hg3
      go_wp2
      exact bodyPost_ret (v := .agg #[.int .i64 2, .int .i64 0, .string s]) (by simp [results, Tryz.results109, go_sem, c3]) rfl ⟨⟨2, 0, s⟩, rfl, okB_str hs12, hs12, (((((hGw.trans (GrowX.of hg2)).trans hG2).trans (GrowX.of hg3)).setOwn (Nat.le_refl _) _).setOwn (Nat.le_refl _) _).setOwn (Nat.le_refl _) _, ((hR3.set hgl _).set hgl _).set hgl _⟩
  · generalize hW2 : World.alloc w1 _ = W2
    obtain ⟨hg2, hs2, k2⟩ := boxed1 hW2
    clear hW2
    refine (below_any g 4 _ (hR.of_grow hg2) (by decide)).mono ?_
    rintro e w2 ⟨y, rfl, hy, hG2, hR2⟩
    have k3 : ∀ o, w2.cell? ⟨w1.heap.size, o, none⟩ = _ := fun o => (hG2.cell hs2 (Nat.ne_of_gt hR.lt)).trans (k2 o)
    have hB2 : w2.heap[w.heap.size]? = _ := (hG2.block _ (Nat.lt_of_lt_of_le hs (Nat.le_trans hG.size hg2.size)) hne).trans ((hg2.block (Nat.lt_of_lt_of_le hs hG.size)).trans ((hG.block _ hs hne).trans HB.out))
    have HB2 := Lib.hid hB2
    have hlt2 : w.heap.size < w2.heap.size := Nat.lt_of_lt_of_le hs (Nat.le_trans hG.size (Nat.le_trans hg2.size hG2.size))
    clear k2 c1 f1 hB2
    obtain rfl | rfl | rfl | rfl : y = 0 ∨ y = 1 ∨ y = 2 ∨ y = 3 := by unfold RdBelow at hy; omega
    all_goals
      go_wp2_with fail
      refine (l1Int_gen _ _ (by decide)).mono ?_
      rintro e w3 ⟨m, hm, rfl, hg3⟩
      obtain ⟨c3, f3⟩ := free_of ((hg3.block hlt2).trans HB2.out)
      have hR3 := hR2.of_grow hg3
      go_wp2
      exact bodyPost_ret (v := .agg #[.int .i64 1, .int .i64 m, .string ⟨#[]⟩]) (by simp [results, Tryz.results109, go_sem, c3]) rfl ⟨⟨1, m, ⟨#[]⟩⟩, rfl, okB_int hm, (by show (0 : Nat) ≤ 12; decide), (((((hGw.trans (GrowX.of hg2)).trans hG2).trans (GrowX.of hg3)).setOwn (Nat.le_refl _) _).setOwn (Nat.le_refl _) _).setOwn (Nat.le_refl _) _, ((hR3.set hgl _).set hgl _).set hgl _⟩
  · refine (below_any g 5 _ hR (by decide)).mono ?_
    rintro e w2 ⟨y, rfl, hy, hG2, hR2⟩
    have hB2 : w2.heap[w.heap.size]? = _ := (hG2.block _ (Nat.lt_of_lt_of_le hs hG.size) hne).trans ((hG.block _ hs hne).trans HB.out)
    have HB2 := Lib.hid hB2
    have hlt2 : w.heap.size < w2.heap.size := Nat.lt_of_lt_of_le hs (Nat.le_trans hG.size hG2.size)
    clear c1 f1 hB2
    have hy0 : -1000000000 ≤ y ∧ y ≤ 1000000000 := by unfold RdBelow at hy; omega
    go_wp2_with fail
    refine (l1Int_any _ _).mono ?_
    rintro e w3 ⟨rfl, hg3⟩
    obtain ⟨c3, f3⟩ := free_of ((hg3.block hlt2).trans HB2.out)
    have hR3 := hR2.of_grow hg3
    go_wp2
    exact bodyPost_ret (v := .agg #[.int .i64 1, .int .i64 y, .string ⟨#[]⟩]) (by simp [results, Tryz.results109, go_sem, c3]) rfl ⟨⟨1, y, ⟨#[]⟩⟩, rfl, okB_int hy0, (by show (0 : Nat) ≤ 12; decide), ((((hGw.trans hG2).trans (GrowX.of hg3)).setOwn (Nat.le_refl _) _).setOwn (Nat.le_refl _) _).setOwn (Nat.le_refl _) _, ((hR3.set hgl _).set hgl _).set hgl _⟩
end Go.Proofs.YtjeilgogjoidjaaGreat
