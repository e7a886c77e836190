import Derived.Test.YtjeilgogjoidjaaBundleA
/-! What is drawn of schemas, told with the room of the slices of keys. -/
namespace Go.Proofs.Ytjeilgogjoidjaa
open Go.RowKit
set_option linter.unusedVariables false
set_option linter.unusedSimpArgs false
theorem flat_imp {α : Type} {k k' : Kd α} (hn : k'.n = k.n) {w : World} {S : Nat → Prop} (hi : ∀ cs x, k.rd w S cs x → k'.rd w S cs x) : ∀ {rows : List Value} {xs : List α}, Flat k w S rows xs → Flat k' w S rows xs
  | _, [], h => h
  | _, x :: xs, ⟨cs, rest, h, hr, hf⟩ => ⟨cs, rest, h, hi cs x hr, flat_imp hn hi hf⟩
theorem OwnG.imp {α : Type} {k k' : Kd α} (hn : k'.n = k.n) {E : TypeId} {B : Nat} {w : World} {A : Option Addr} {n c : Nat} {xs : List α} (hi : ∀ w S cs x, k.rd w S cs x → k'.rd w S cs x) (h : OwnG k E B w A n c xs) : OwnG k' E B w A n c xs := by
  obtain ⟨rows, h1, h2, h3⟩ := h
  exact ⟨rows, by rw [hn]; exact h1, flat_imp hn (hi w _) h2, h3⟩
theorem isSl_imp {α : Type} {k k' : Kd α} (hn : k'.n = k.n) {w : World} {S : Nat → Prop} {A : Option Addr} {n c : Nat} {xs : List α} (hi : ∀ w S cs x, k.rd w S cs x → k'.rd w S cs x) (h : IsSl k w S A n c xs) : IsSl k' w S A n c xs := by
  obtain ⟨h1, h2, h3, h4⟩ := h
  refine ⟨h1, h2, h3, fun hl => ?_⟩
  obtain ⟨b, off, hA, hb, hx⟩ := h4 hl
  refine ⟨b, off, hA, hb, fun i hlt => ?_⟩
  obtain ⟨cs, hc, hr⟩ := hx i hlt
  exact ⟨cs, by rw [hn]; exact hc, hi _ _ _ _ hr⟩
/-- A table the slice of whose uniques has no room. -/
def Kd.tableU : Kd Table where
  n := 6
  rd := fun w S cs t => Kd.table.rd w S cs t ∧ ∃ (U : Option Addr) (m : Nat), cs[3]? = some (Value.slice U m m) ∧ m ≤ 1
  len := fun h => Kd.table.len h.1
  mono := fun {w w' S S' cs a} h hS hw => by obtain ⟨h1, h2⟩ := h; exact ⟨Kd.table.mono h1 hS hw, h2⟩
theorem tableU_table : ∀ (w : World) (S : Nat → Prop) (cs : List Value) (x : Table), Kd.tableU.rd w S cs x → Kd.table.rd w S cs x := fun _ _ _ _ h => h.1
theorem ones_tableU : Ones Kd.tableU := fun w S cs a h => ones_table w S cs a h.1
theorem simsLen_tableU : Sims Kd.tableU (fun t => t.cols.length) := fun w w' S S' cs cs' a hr hs hl hS => by
  obtain ⟨hr, U, m, hU, hm⟩ := hr
  obtain ⟨y, hy, hc⟩ := simsLen_table w w' S S' cs cs' a hr hs hl hS
  obtain ⟨v', h1, h2⟩ := hl.2 3 _ hU
  obtain rfl := h2.slice
  exact ⟨y, ⟨hy, U, m, h1, hm⟩, hc⟩
/-- The table in its box, and the reader. -/
def TabInU (g B P : Nat) (w0 w : World) : Prop := ∃ t : Table, OwnG Kd.tableU 34 B w (some ⟨P, 0, none⟩) 1 1 [t] ∧ t.cols.length = 3 ∧ GrowX g w0 w ∧ IsRd w g
/-- The cells of the first table. -/
theorem tab_boxU {E : TypeId} {B P n c : Nat} {w : World} {t : Table} {ts : List Table} (h : OwnG Kd.tableU E B w (some ⟨P, 0, none⟩) n c (t :: ts)) : ∃ (A0 A1 A2 A3 A4 : Option Addr) (l0 c0 l1 c1 l2 c2 l3 c3 l4 c4 : Nat),
    Kd.tableU.rd w (Led B w (some ⟨P, 0, none⟩)) [.string t.name, .slice A0 l0 c0, .slice A1 l1 c1, .slice A2 l2 c2, .slice A3 l3 c3, .slice A4 l4 c4] t ∧ B ≤ P ∧ P < w.heap.size ∧ (∀ o, w.frozen? ⟨P, o, none⟩ = false) ∧
    w.cell? ⟨P, 0, none⟩ = some (.string t.name) ∧ w.cell? ⟨P, 1, none⟩ = some (.slice A0 l0 c0) ∧ w.cell? ⟨P, 2, none⟩ = some (.slice A1 l1 c1) ∧ w.cell? ⟨P, 3, none⟩ = some (.slice A2 l2 c2) ∧ w.cell? ⟨P, 4, none⟩ = some (.slice A3 l3 c3) ∧ w.cell? ⟨P, 5, none⟩ = some (.slice A4 l4 c4) := by
  have hb := h.baseB P rfl
  obtain ⟨rows, ⟨hr, h0 | ⟨g, cap', cur, hv, hB, hh, hle, hmx, hz, ht⟩⟩, h2, h3⟩ := h
  · cases h0.1
  · simp only [Value.slice.injEq, Option.some.injEq, Addr.mk.injEq, and_true, true_and] at hv
    obtain ⟨rfl, rfl⟩ := hv
    obtain ⟨cs, rest, rfl, hrd, hrest⟩ := h2
    have hrd' := hrd
    obtain ⟨⟨A0, l0, c0, A1, l1, c1, A2, l2, c2, A3, l3, c3, A4, l4, c4, rfl, -⟩, -⟩ := hrd
    have hn : 6 ≤ n * Kd.tableU.n := by
      have h1 : 1 ≤ n := by rw [← h3]; simp
      have : 1 * Kd.tableU.n ≤ n * Kd.tableU.n := Nat.mul_le_mul_right _ h1
      exact this
    have hat : ∀ o v, ([.string t.name, .slice A0 l0 c0, .slice A1 l1 c1, .slice A2 l2 c2, .slice A3 l3 c3, .slice A4 l4 c4] : List Value)[o]? = some v → w.cell? ⟨P, o, none⟩ = some v := fun o v hv => by
      have hlt := (List.getElem?_eq_some_iff.mp hv).1
      have hlt6 : o < 6 := hlt
      rw [cell_of hh, ← Array.getElem?_toList, ← List.getElem?_take_of_lt (j := n * Kd.tableU.n) (by omega), ht, List.getElem?_append_left hlt]
      exact hv
    exact ⟨A0, A1, A2, A3, A4, l0, c0, l1, c1, l2, c2, l3, c3, l4, c4, hrd', hB, hb.2, (free_of hh).2, hat 0 _ rfl, hat 1 _ rfl, hat 2 _ rfl, hat 3 _ rfl, hat 4 _ rfl, hat 5 _ rfl⟩
theorem TabInU.next {g B P : Nat} {w0 w w' : World} (h : TabInU g B P w0 w) (hg : GrowX g w w') (hR : IsRd w' g) (hB : g < B) : TabInU g B P w0 w' := by
  obtain ⟨t, own, ht, hG, _⟩ := h
  exact ⟨t, own.growX hg hB, ht, hG.trans hg, hR⟩
/-- The tables so far, and the reader. -/
def SchInU (g B m : Nat) (w0 : World) (sv : Value) (w : World) : Prop := ∃ (P n c : Nat) (s : List Table), sv = .slice (some ⟨P, 0, none⟩) n c ∧ OwnG Kd.tableU 34 B w (some ⟨P, 0, none⟩) n c s ∧ 1 ≤ n ∧ n ≤ m ∧ (∀ t ∈ s, 2 ≤ t.cols.length ∧ t.cols.length ≤ 3) ∧ GrowX g w0 w ∧ IsRd w g
/-- A table that refers to one, made in new blocks: the literal that is appended. -/
theorem tab_srcU {B S : Nat} {v : World} {bc bk bf : Nat} {nm n2 fn : ByteArray} {b2 d : Bool} {a u : Int} {E0 E1 E2 E3 E4 : TypeId}
    (f0 : v.heap[bc]? = some (.cells #[.string ⟨#[107]⟩, .int .i64 1, .bool true, .int .i64 0, .int .i64 0, .string ⟨#[]⟩, .string n2, .int .i64 1, .bool b2, .int .i64 0, .int .i64 0, .string ⟨#[]⟩] E0 (0, 0)))
    (f1 : v.heap[bk]? = some (.cells #[.int .i64 0] E1 (0, 0))) (f2 : v.heap[bf]? = some (.cells #[.int .i64 1] E1 (0, 0))) (h0 : B ≤ bc ∧ bc ≠ S) (h1 : B ≤ bk ∧ bk ≠ S) (h2 : B ≤ bf ∧ bf ≠ S) (hS : S < v.heap.size) (hB : B ≤ v.heap.size)
    (z0 : nm.size ≤ maxLen) (z1 : n2.size ≤ maxLen) (z2 : fn.size ≤ maxLen) :
    IsSl Kd.tableU (((v.alloc (.cells #[.slice (some ⟨bf, 0, none⟩) 1 1, .string fn, .int .i64 a, .int .i64 u, .bool d] E2)).alloc (.cells #[.string nm, .slice (some ⟨bc, 0, none⟩) 2 2, .slice (some ⟨bk, 0, none⟩) 1 1, .slice none 0 0, .slice none 0 0, .slice (some ⟨v.heap.size, 0, none⟩) 1 1] E3)).alloc
        (.cells #[.string nm, .slice (some ⟨bc, 0, none⟩) 2 2, .slice (some ⟨bk, 0, none⟩) 1 1, .slice none 0 0, .slice none 0 0, .slice (some ⟨v.heap.size, 0, none⟩) 1 1] E4))
      (Led B (((v.alloc (.cells #[.slice (some ⟨bf, 0, none⟩) 1 1, .string fn, .int .i64 a, .int .i64 u, .bool d] E2)).alloc (.cells #[.string nm, .slice (some ⟨bc, 0, none⟩) 2 2, .slice (some ⟨bk, 0, none⟩) 1 1, .slice none 0 0, .slice none 0 0, .slice (some ⟨v.heap.size, 0, none⟩) 1 1] E3)).alloc
        (.cells #[.string nm, .slice (some ⟨bc, 0, none⟩) 2 2, .slice (some ⟨bk, 0, none⟩) 1 1, .slice none 0 0, .slice none 0 0, .slice (some ⟨v.heap.size, 0, none⟩) 1 1] E4)) (some ⟨S, 0, none⟩))
      (some ⟨v.heap.size + 1 + 1, 0, none⟩) 1 1 [⟨nm, [⟨⟨#[107]⟩, 1, true, ⟨0, 0, ⟨#[]⟩⟩⟩, ⟨n2, 1, b2, ⟨0, 0, ⟨#[]⟩⟩⟩], [0], [], [], [⟨[1], fn, a, u, d⟩]⟩] := by
  generalize hV : World.alloc (World.alloc (World.alloc v _) _) _ = V
  obtain ⟨gV, s0, s1, s2, q0, q1, q2⟩ := boxed3 hV
  clear hV
  have lt : ∀ {b : Nat} {cs : Array Value} {E : TypeId}, v.heap[b]? = some (.cells cs E (0, 0)) → b < v.heap.size := fun {b cs E} h => by
    rcases Nat.lt_or_ge b v.heap.size with h' | h'
    · exact h'
    · simp [Array.getElem?_eq_none h'] at h
  have p0 := (gV.block (lt f0)).trans f0
  have p1 := (gV.block (lt f1)).trans f1
  have p2 := (gV.block (lt f2)).trans f2
  exact isSl_lit q2 (flat_one ⟨⟨_, _, _, _, _, _, _, _, _, _, _, _, _, _, _, rfl, z0, cols2 p0 (Led.of p0 h0.1 h0.2) ⟨(by decide : 1 ≤ maxLen), Nat.zero_le _⟩ ⟨z1, Nat.zero_le _⟩, int1 p1 (Led.of p1 h1.1 h1.2), nilSl, nilSl, fk1 q0 (Led.of q0 hB (by omega)) z2 (int1 p2 (Led.of p2 h2.1 h2.2))⟩, _, _, rfl, by decide⟩) rfl (by decide) (Led.of q2 (by omega) (by omega))
theorem SchInU.next {g B m : Nat} {w0 w w' : World} {sv : Value} (h : SchInU g B m w0 sv w) (hg : GrowX g w w') (hR : IsRd w' g) (hB : g < B) : SchInU g B (m + 1) w0 sv w' := by
  obtain ⟨P, n, c, s, hsv, own, h1, hn, ht, hG, _⟩ := h
  exact ⟨P, n, c, s, hsv, own.growX hg hB, h1, by omega, ht, hG.trans hg, hR⟩
def SchemaDrawnU (g : Nat) (w : World) (e : Ending) (w' : World) : Prop := ∃ (A : Option Addr) (n c : Nat) (s : List Table), e = .returned (.slice A n c) ∧ OwnG Kd.tableU 34 w.heap.size w' A n c s ∧ 1 ≤ n ∧ n ≤ 3 ∧
  (∀ t ∈ s, 2 ≤ t.cols.length ∧ t.cols.length ≤ 3) ∧ GrowX g w w' ∧ IsRd w' g
set_option maxRecDepth 20000 in
set_option maxHeartbeats 8000000 in
theorem schema_anyU (g : Nat) (w : World) (h : IsRd w g) : Calls Try.prog 45 #[.pointer (some ⟨g, 0, none⟩)] w (SchemaDrawnU g w) := by
  have hgl := h.lt
  go_enter Try.func45, Try.ntmps45
  go_wp2_with fail
  refine (l1Int_any _ _).mono ?_
  rintro e w1 ⟨rfl, g1⟩
  go_wp2_with fail
  generalize hW : World.alloc (World.alloc (World.alloc w1 _) _) _ = W
  obtain ⟨gW, s0, s1, s2, b0, b1, b2⟩ := boxed3 hW
  clear hW
  have hw1 : w.heap.size ≤ w1.heap.size := g1.size
  have own0 : OwnG Kd.tableU 34 w.heap.size W (some ⟨w1.heap.size + 1 + 1, 0, none⟩) 1 1 [⟨⟨#[112]⟩, [⟨⟨#[107]⟩, 1, true, ⟨0, 0, ⟨#[]⟩⟩⟩, ⟨⟨#[116]⟩, 2, false, ⟨0, 0, ⟨#[]⟩⟩⟩, ⟨⟨#[110]⟩, 1, false, ⟨1, 1, ⟨#[]⟩⟩⟩], [0], [], [], []⟩] :=
    OwnG.lit b2 (by omega) (flat_one ⟨⟨_, _, _, _, _, _, _, _, _, _, _, _, _, _, _, rfl, (by decide : 1 ≤ maxLen), cols3 b0 (Led.of b0 hw1 (by omega)) (by decide) (by decide) (by decide), int1 b1 (Led.of b1 (by omega) (by omega)), nilSl, nilSl, nilSl⟩, _, _, rfl, by decide⟩) rfl (by decide)
  have T0 : TabInU g w.heap.size (w1.heap.size + 1 + 1) w W := ⟨_, own0, rfl, GrowX.of (g1.trans gW), h.of_grow (g1.trans gW)⟩
  clear own0 b0 b1 b2
  obtain ⟨P, hP⟩ : ∃ P, P = w1.heap.size + 1 + 1 := ⟨_, rfl⟩
  rw [← hP] at T0 ⊢
  have hwP : w.heap.size ≤ P := by omega
  have hgP : g < P := by omega
  have hPW : P < W.heap.size := by omega
  clear hP
  refine (once_any g 2 _ (h.of_grow (g1.trans gW)) (by decide) (by decide)).mono ?_
  rintro e w2 ⟨x, rfl, hG2, hR2⟩
  go_upto_if 15 with (fail)
  go_cut [] (fun wx => TabInU g w.heap.size P w wx)
  case first =>
    cases x with
    | false =>
      go_wp2
      go_meet
      exact T0.next hG2 hR2 hgl
    | true =>
      have T2 := T0.next hG2 hR2 hgl
      obtain ⟨t, own, htl, hGt, hRt⟩ := T2
      obtain ⟨A0, A1, A2, A3, A4, l0, c0, l1, c1, l2, c2, l3, c3, l4, c4, hrd, hBP, hPs, fP, d0, d1, d2, d3, d4, d5⟩ := tab_boxU own
      have OWN := Lib.hid own
      clear own d0 d1 d2 d4 d5 T0
      go_wp2
      go_meet
      rw [put_alloc2 hPs]
      generalize hV : World.alloc (World.alloc w2 _) _ = V
      obtain ⟨gV, v0, v1, e0, e1⟩ := boxedB2 hV
      clear hV
      have own2 := OWN.out.grow gV
      have hB2 : w.heap.size ≤ w2.heap.size := hGt.size
      have hne : ∀ q, q = w2.heap.size ∨ q = w2.heap.size + 1 → q ≠ P := by intro q hq; omega
      refine ⟨{ t with uniques := [⟨[2]⟩] }, own2.put1 (i := 0) (j := 3) rfl (by decide) (fun cs hr => ?_), htl, (hGt.trans (GrowX.of gV)).put (by omega) _, (hRt.of_grow gV).set hgP _⟩
      obtain ⟨⟨_, _, _, _, _, _, _, _, _, _, _, _, _, _, _, rfl, hnm, q1, q2, q3, q4, q5⟩, UE⟩ := hr
      exact ⟨⟨_, _, _, _, _, _, _, _, _, _, _, _, _, _, _, rfl, hnm, q1, q2, unique1 e1 (Led.of e1 (by omega) (hne _ (.inr rfl))) (int1 e0 (Led.of e0 (by omega) (hne _ (.inl rfl)))), q4, q5⟩, (by first | exact UE | exact ⟨_, _, rfl, by decide⟩)⟩
  case rest =>
    have T0 := hcut
    clear hcut
    obtain ⟨wa, hwa⟩ : ∃ v, v = wc := ⟨_, rfl⟩
    rw [← hwa] at T0 ⊢
    clear hwa
    have hRa := T0.choose_spec.2.2.2
    go_wp2_with fail
    refine (once_any g 2 _ hRa (by decide) (by decide)).mono ?_
    rintro e w3 ⟨x3, rfl, hG3, hR3⟩
    replace T0 := T0.next hG3 hR3 hgl
    go_upto_if 21 with (fail)
    go_cut [] (fun wx => TabInU g w.heap.size P w wx)
    case first =>
      cases x3 with
      | false =>
        go_wp2
        go_meet
        exact T0
      | true =>
        go_wp2_with fail
        refine (l2Col_any _ _).mono ?_
        rintro e w4 ⟨rfl, g4⟩
        go_wp2_with fail
        refine (l1Int_any _ _).mono ?_
        rintro e w5 ⟨rfl, g5⟩
        go_wp2_with fail
        refine (l2Const_any _ _ _ _).mono ?_
        rintro e w6 ⟨rfl, g6⟩
        obtain ⟨t, own, htl, hGt, hRt⟩ := T0.next (GrowX.of (g4.trans (g5.trans g6))) (hR3.of_grow (g4.trans (g5.trans g6))) hgl
        obtain ⟨A0, A1, A2, A3, A4, l0, c0, l1, c1, l2, c2, l3, c3, l4, c4, hrd, hBP, hPs, fP, d0, d1, d2, d3, d4, d5⟩ := tab_boxU own
        have OWN := Lib.hid own
        clear own d0 d1 d2 d3 d5 T0
        go_wp2
        go_meet
        rw [put_alloc2 hPs]
        generalize hV : World.alloc (World.alloc w6 _) _ = V
        obtain ⟨gV, v0, v1, e0, e1⟩ := boxedB2 hV
        clear hV
        have own2 := OWN.out.grow gV
        have hB2 : w.heap.size ≤ w6.heap.size := hGt.size
        have hne : ∀ q, q = w6.heap.size ∨ q = w6.heap.size + 1 → q ≠ P := by intro q hq; omega
        refine ⟨{ t with checks := [⟨[⟨1, 0, ⟨0, 0, ⟨#[]⟩⟩⟩, ⟨2, 0, ⟨1, 4, ⟨#[]⟩⟩⟩, ⟨4, 0, ⟨0, 0, ⟨#[]⟩⟩⟩]⟩] }, own2.put1 (i := 0) (j := 4) rfl (by decide) (fun cs hr => ?_), htl, (hGt.trans (GrowX.of gV)).put (by omega) _, (hRt.of_grow gV).set hgP _⟩
        obtain ⟨⟨_, _, _, _, _, _, _, _, _, _, _, _, _, _, _, rfl, hnm, q1, q2, q3, q4, q5⟩, UE⟩ := hr
        exact ⟨⟨_, _, _, _, _, _, _, _, _, _, _, _, _, _, _, rfl, hnm, q1, q2, q3, check1 e1 (Led.of e1 (by omega) (hne _ (.inr rfl))) (isSl_lit e0 (flat_three (cs := [.int .i64 1, .int .i64 0, .int .i64 0, .int .i64 0, .string ⟨#[]⟩]) (ds := [.int .i64 2, .int .i64 0, .int .i64 1, .int .i64 4, .string ⟨#[]⟩]) (es := [.int .i64 4, .int .i64 0, .int .i64 0, .int .i64 0, .string ⟨#[]⟩]) ⟨rfl, Nat.zero_le _⟩ ⟨rfl, Nat.zero_le _⟩ ⟨rfl, Nat.zero_le _⟩) rfl (by decide) (Led.of e0 (by omega) (hne _ (.inl rfl)))), q5⟩, (by first | exact UE | exact ⟨_, _, rfl, by decide⟩)⟩
    case rest =>
      have T0 := hcut
      clear hcut
      obtain ⟨wb, hwb⟩ : ∃ v, v = wc := ⟨_, rfl⟩
      rw [← hwb] at T0 ⊢
      clear hwb
      obtain ⟨t, own, htl, hGt, hRt⟩ := T0
      obtain ⟨A0, A1, A2, A3, A4, l0, c0, l1, c1, l2, c2, l3, c3, l4, c4, hrd, hBP, hPs, fP, d0, d1, d2, d3, d4, d5⟩ := tab_boxU own
      have HRD := Lib.hid hrd
      clear own hrd
      go_wp2_with fail
      generalize hV : World.alloc wb _ = V
      obtain ⟨gV, v0, e0⟩ := boxedB hV
      clear hV d0 d1 d2 d3 d4 d5 fP
      have hBb : w.heap.size ≤ wb.heap.size := hGt.size
      have own3 : OwnG Kd.tableU 34 w.heap.size V (some ⟨wb.heap.size, 0, none⟩) 1 1 [t] :=
        OwnG.lit e0 hBb (flat_one (Kd.tableU.mono HRD.out (fun b hb => ⟨hb.1.grow gV, fun e => by simp only [blockOf, Option.some.injEq] at e; have := hb.1.2.1; omega⟩) (fun b hb => gV.block hb.1.2.1))) rfl (by decide)
      have hGV : GrowX g w V := hGt.trans (GrowX.of gV)
      have hbnd : ∀ u ∈ [t], 2 ≤ u.cols.length ∧ u.cols.length ≤ 3 := fun u hu => by simp only [List.mem_singleton] at hu; subst hu; omega
      clear e0
      refine (once_any g 4 _ (hRt.of_grow gV) (by decide) (by decide)).mono ?_
      rintro e w7 ⟨x7, rfl, hG7, hR7⟩
      have own7 := own3.growX hG7 hgl
      have hGW7 := hGV.trans hG7
      go_upto_if 34 with (fail)
      go_cut [4] (fun sv wx => SchInU g w.heap.size 2 w sv wx)
      case first =>
        cases x7 with
        | true =>
          go_wp2
          go_meet
          exact ⟨_, 1, 1, [t], rfl, own7, by omega, by omega, hbnd, hGW7, hR7⟩
        | false =>
          go_wp2_with fail
          refine (once_any g 4 _ hR7 (by decide) (by decide)).mono ?_
          rintro e w8 ⟨x8, rfl, hG8, hR8⟩
          go_wp2_with fail
          generalize hV3 : World.alloc (World.alloc (World.alloc w8 _) _) _ = V3
          obtain ⟨gV3, s30, s31, s32, k0, k1, k2⟩ := boxed3 hV3
          clear hV3
          refine (action_any g _ (hR8.of_grow gV3)).mono ?_
          rintro e w9 ⟨a9, rfl, _, hG9, hR9⟩
          go_wp2_with fail
          refine (action_any g _ hR9).mono ?_
          rintro e w10 ⟨a10, rfl, _, hG10, hR10⟩
          go_wp2_with fail
          refine (once_any g 4 _ hR10 (by decide) (by decide)).mono ?_
          rintro e w11 ⟨x11, rfl, hG11, hR11⟩
          have G911 : GrowX g V3 w11 := hG9.trans (hG10.trans hG11)
          have Gall : GrowX g w7 w11 := hG8.trans ((GrowX.of gV3).trans G911)
          have ownZ := own7.growX Gall hgl
          have hSz : wb.heap.size < w11.heap.size := (ownZ.baseB _ rfl).2
          have hS0 : wb.heap.size < w7.heap.size := (own7.baseB _ rfl).2
          have hz8 := hG8.size
          have hwz : w.heap.size ≤ w7.heap.size := (hGW7).size
          have hg8 : g < w8.heap.size := hR8.lt
          have f0 := (G911.block _ s30 (by omega)).trans k0
          have f1 := (G911.block _ s31 (by omega)).trans k1
          have f2 := (G911.block _ s32 (by omega)).trans k2
          have hzz := Gall.size
          have SRC := Lib.hid (tab_srcU (B := w.heap.size) (S := wb.heap.size) (nm := ⟨#[99]⟩) (fn := ⟨#[112]⟩) (a := a9) (u := a10) (d := x11) (E2 := 49) (E3 := 34) (E4 := 34) f0 f1 f2 (by omega) (by omega) (by omega) hSz (by omega) (by decide) (by decide) (by decide))
          clear k0 k1 k2 f0 f1 f2
          go_wp2_with (at_builtin; refine wpList_appG ones_tableU elem_table rfl (.tmp 51) (.tmp 53) (by rfl) (by rfl) (ownZ.grow ((((Grow.refl _).alloc _).alloc _).alloc _)) (Nat.le_trans (by omega) ((((Grow.refl w11).alloc _).alloc _).alloc _).size) (by rfl) SRC.out (fun _ h => h) (q := 1 + 1) rfl (by unfold maxLen; omega) (by omega) (fun A12 c12 w12 ap12 => ?_))
          go_meet
          have hGw : GrowX g w w11 := (hGW7).trans Gall
          obtain ⟨P12, hP12⟩ : ∃ p, A12 = some ⟨p, 0, none⟩ := ap12.own.there (by omega)
          subst hP12
          exact ⟨P12, 1 + 1, c12, _, rfl, ap12.own, by omega, by omega, fun t ht => by
            rcases List.mem_append.mp ht with ht | ht
            · exact hbnd t ht
            · simp only [List.mem_singleton] at ht; subst ht; exact ⟨Nat.le_refl 2, Nat.le_succ 2⟩, ap12.growX (((hGw.alloc _).alloc _).alloc _) (Nat.le_refl _), ap12.rd (hR11.of_grow ((((Grow.refl _).alloc _).alloc _).alloc _)) hgl⟩
      case rest =>
        have T0 := hcut
        clear hcut
        obtain ⟨wd, hwd⟩ : ∃ v, v = wc := ⟨_, rfl⟩
        rw [← hwd] at T0 ⊢
        clear hwd hbnd
        obtain ⟨PS, n1, c1', s1', rfl, ownS, hn1, hn2, hbnd, hGS, hRS⟩ := T0
        go_wp2_with fail
        refine (once_any g 3 _ hRS (by decide) (by decide)).mono ?_
        rintro e w13 ⟨x13, rfl, hG13, hR13⟩
        have own13 := ownS.growX hG13 hgl
        have hGW13 := hGS.trans hG13
        go_upto_if 56 with (fail)
        go_cut [4] (fun sv wx => SchInU g w.heap.size 3 w sv wx)
        case first =>
          cases x13 with
          | false =>
            go_wp2
            go_meet
            exact ⟨PS, n1, c1', s1', rfl, own13, by omega, by omega, hbnd, hGW13, hR13⟩
          | true =>
            go_wp2_with fail
            generalize hV3 : World.alloc (World.alloc (World.alloc w13 _) _) _ = V3
            obtain ⟨gV3, s30, s31, s32, k0, k1, k2⟩ := boxed3 hV3
            clear hV3
            refine (action_any g _ (hR13.of_grow gV3)).mono ?_
            rintro e w9 ⟨a9, rfl, _, hG9, hR9⟩
            go_wp2_with fail
            refine (action_any g _ hR9).mono ?_
            rintro e w10 ⟨a10, rfl, _, hG10, hR10⟩
            have G911 : GrowX g V3 w10 := hG9.trans hG10
            have Gall : GrowX g w13 w10 := (GrowX.of gV3).trans G911
            have ownZ := own13.growX Gall hgl
            have hSz : PS < w10.heap.size := (ownZ.baseB _ rfl).2
            have hS0 : PS < w13.heap.size := (own13.baseB _ rfl).2
            have hwz : w.heap.size ≤ w13.heap.size := (hGW13).size
            have hg8 : g < w13.heap.size := hR13.lt
            have f0 := (G911.block _ s30 (by omega)).trans k0
            have f1 := (G911.block _ s31 (by omega)).trans k1
            have f2 := (G911.block _ s32 (by omega)).trans k2
            have hzz := Gall.size
            have SRC := Lib.hid (tab_srcU (B := w.heap.size) (S := PS) (nm := ⟨#[116, 114, 101, 101]⟩) (fn := ⟨#[116, 114, 101, 101]⟩) (a := a9) (u := a10) (d := false) (E2 := 49) (E3 := 34) (E4 := 34) f0 f1 f2 (by omega) (by omega) (by omega) hSz (by omega) (by decide) (by decide) (by decide))
            clear k0 k1 k2 f0 f1 f2
            go_wp2_with (at_builtin; refine wpList_appG ones_tableU elem_table rfl (.tmp 69) (.tmp 71) (by rfl) (by rfl) (ownZ.grow ((((Grow.refl _).alloc _).alloc _).alloc _)) (Nat.le_trans (by omega) ((((Grow.refl w10).alloc _).alloc _).alloc _).size) (by rfl) SRC.out (fun _ h => h) (q := n1 + 1) rfl (by unfold maxLen; omega) (by omega) (fun A12 c12 w12 ap12 => ?_))
            go_meet
            have hGw : GrowX g w w10 := (hGW13).trans Gall
            obtain ⟨P12, hP12⟩ : ∃ p, A12 = some ⟨p, 0, none⟩ := ap12.own.there (by omega)
            subst hP12
            exact ⟨P12, n1 + 1, c12, _, rfl, ap12.own, by omega, by omega, fun t ht => by
              rcases List.mem_append.mp ht with ht | ht
              · exact hbnd t ht
              · simp only [List.mem_singleton] at ht; subst ht; exact ⟨Nat.le_refl 2, Nat.le_succ 2⟩, ap12.growX (((hGw.alloc _).alloc _).alloc _) (Nat.le_refl _), ap12.rd (hR10.of_grow ((((Grow.refl _).alloc _).alloc _).alloc _)) hgl⟩
        case rest =>
          have T0 := hcut
          clear hcut
          obtain ⟨we, hwe⟩ : ∃ v, v = wc := ⟨_, rfl⟩
          rw [← hwe] at T0 ⊢
          clear hwe hbnd
          obtain ⟨PT, n2, c2', s2', rfl, ownT, hm1, hm2, hbnd, hGT, hRT⟩ := T0
          go_wp2_with fail
          refine (below_any g 40 _ hRT (by decide)).mono ?_
          rintro e wf ⟨y, rfl, hy, hGf, hRf⟩
          have ownF := ownT.growX hGf hgl
          have hGF := hGT.trans hGf
          have hlen := ownF.len
          obtain ⟨t0, ts, rfl⟩ : ∃ t0 ts, s2' = t0 :: ts := by
            cases s2' with
            | nil => simp at hlen; omega
            | cons a l => exact ⟨a, l, rfl⟩
          have hb0 := hbnd t0 (List.mem_cons_self ..)
          obtain ⟨B0, B1, B2, B3, B4, p0, q0, p1, q1, p2, q2, p3, q3, p4, q4, hrd, hBP', hPs', fP', d0, d1, d2, d3, d4, d5⟩ := tab_boxU ownF
          have OWN := Lib.hid ownF
          have HRD := Lib.hid hrd
          have HBN := Lib.hid hbnd
          have hn2 : (0 : Int) < (n2 : Int) := by omega
          have hgP' : g < PT := by omega
          have hcase : y = 37 ∨ y = 38 ∨ y = 39 ∨ ((y == 37) = false ∧ (y == 38) = false ∧ (y == 39) = false) := by simp only [beq_eq_false_iff_ne]; omega
          clear ownT ownF hrd hbnd
          rcases hcase with rfl | rfl | rfl | ⟨y7, y8, y9⟩
          · go_wp2
            go_ret
            refine ⟨_, n2, c2', _, rfl, OWN.out.put1 (i := 0) (j := 2) (y := { t0 with key := [] }) rfl (by decide) (fun cs hr => ?_), hm1, hm2, fun u hu => ?_, hGF.put hBP' _, hRf.set hgP' _⟩
            · obtain ⟨⟨_, _, _, _, _, _, _, _, _, _, _, _, _, _, _, rfl, hnm, r1, r2, r3, r4, r5⟩, UE⟩ := hr
              exact ⟨⟨_, _, _, _, _, _, _, _, _, _, _, _, _, _, _, rfl, hnm, r1, nilSl, r3, r4, r5⟩, (by first | exact UE | exact ⟨_, _, rfl, by decide⟩)⟩
            · rcases List.mem_or_eq_of_mem_set hu with hu | rfl
              · exact HBN.out u hu
              · exact hb0
          · go_wp2
            go_ret
            refine ⟨_, n2, c2', _, rfl, OWN.out.put1 (i := 0) (j := 0) (y := { t0 with name := ⟨#[99]⟩ }) rfl (by decide) (fun cs hr => ?_), hm1, hm2, fun u hu => ?_, hGF.put hBP' _, hRf.set hgP' _⟩
            · obtain ⟨⟨_, _, _, _, _, _, _, _, _, _, _, _, _, _, _, rfl, hnm, r1, r2, r3, r4, r5⟩, UE⟩ := hr
              exact ⟨⟨_, _, _, _, _, _, _, _, _, _, _, _, _, _, _, rfl, (by decide : 1 ≤ maxLen), r1, r2, r3, r4, r5⟩, (by first | exact UE | exact ⟨_, _, rfl, by decide⟩)⟩
            · rcases List.mem_or_eq_of_mem_set hu with hu | rfl
              · exact HBN.out u hu
              · exact hb0
          · obtain ⟨⟨_, _, _, _, _, _, _, _, _, _, _, _, _, _, _, he, _, scols, _⟩, _⟩ := HRD.out
            simp only [List.cons.injEq, Value.slice.injEq, and_true, true_and] at he
            obtain ⟨⟨rfl, rfl, rfl⟩, _⟩ := he
            have hp0 : p0 = t0.cols.length := scols.1.symm
            obtain ⟨bC, oC, xC, rfl, hxC, hSC, hbC, _, _, e0, e1, _, _, _, _, _⟩ := col_at scols (i := 0) (by omega)
            simp only [Nat.zero_mul, Nat.add_zero] at e1
            have hfC := hSC.1.2.2
            have hBC := hSC.1.1
            have hgC : g < bC := by omega
            have hp0' : (0 : Int) < (p0 : Int) := by omega
            have E1 := Lib.hid e1
            clear hxC e0 e1 d0 d2 d3 d4 d5 scols hSC
            go_wp2_with fail
            go_region_with ((go_at_call 52; refine (off_any g _ _ _ (hRf.of_grow (Grow.refl _).drew) (by decide) (by decide)).mono ?_; rintro e wg ⟨m, rfl, _, hGg, hRg⟩; have Gf' : GrowX g wf wg := ((GrowX.refl g wf).drew).trans hGg; have x1 := (Gf'.cell hPs' (by omega)).trans d1; have x2 := (Gf'.cell hbC (by omega)).trans E1.out; have x3 := fun o => (frozen_of (Gf'.block bC hbC (by omega)) o).trans (hfC o); have x4 := Nat.lt_of_lt_of_le hbC Gf'.size))
            all_goals
              go_wp2
              go_ret
              obtain ⟨ys, ownY, hmap⟩ := (OWN.out.growX Gf' hgl).simPut simsLen_tableU (q := bC) (o := oC + 1) (v := .int .i64 m) x2 (SimS.int _ _ _)
              exact ⟨_, n2, c2', ys, rfl, ownY, hm1, hm2, fun u hu => by
                obtain ⟨i, hi, rfl⟩ := List.getElem_of_mem hu
                obtain ⟨x, hx, hc⟩ := map_at hmap (List.getElem?_eq_getElem hi)
                rw [← hc]
                exact HBN.out x (List.mem_of_getElem? hx), (hGF.trans Gf').put hBC _, hRg.set hgC _⟩
          · go_wp2
            go_ret
            exact ⟨_, n2, c2', _, rfl, OWN.out, hm1, hm2, HBN.out, hGF, hRf⟩
end Go.Proofs.Ytjeilgogjoidjaa
