import Derived.Test.YtjeilgogjoidjaaGreatSchOkS
import Derived.Test.YtjeilgogjoidjaaGreatStack
import Derived.Deep.AppendLies
/-! Who refers to a table. -/
namespace Go.Proofs.YtjeilgogjoidjaaGreat
open Go.RowKit
set_option linter.unusedVariables false
set_option linter.unusedSimpArgs false
def refP (name : ByteArray) (f : Fk) : Bool := f.table.toList == name.toList
def refT (name : ByteArray) (t : Table) : Bool := t.fks.any (refP name)
def refIx (s : List Table) (name : ByteArray) (k : Nat) : List Int := (List.range k).filterMap fun (i : Nat) => match s[i]? with | some t => if refT name t then some (i : Int) else none | none => none
def refersV (s : List Table) (name : ByteArray) : List Int := if schemaOkB s then refIx s name s.length else []
def IntsRes (ks : List Int) (w : World) (e : Ending) (w' : World) : Prop := ∃ A len cap, e = .returned (.slice A len cap) ∧ IsSl Kd.int w' (Fresh w.heap.size w') A len cap ks ∧ Grow w w'
theorem refIx_yes {s : List Table} {name : ByteArray} {k : Nat} {x : Table} (hx : s[k]? = some x) (h : refT name x = true) : refIx s name (k + 1) = refIx s name k ++ [(k : Int)] := by
  simp [refIx, List.range_succ, hx, h]
theorem refIx_no {s : List Table} {name : ByteArray} {k : Nat} {x : Table} (hx : s[k]? = some x) (h : refT name x = false) : refIx s name (k + 1) = refIx s name k := by
  simp [refIx, List.range_succ, hx, h]
theorem own_growR {w w' : World} {B : Nat} {E : TypeId} {v : Value} {n size : Nat} {rows : List Value} (h : w.ownsRow B E size v n rows) (hg : Grow w w') : w'.ownsRow B E size v n rows := by
  obtain ⟨hr, h0 | ⟨g, cap', cur, hv, hB, hh, hle, hmx, hs, ht⟩⟩ := h
  · exact ⟨hr, .inl h0⟩
  · refine ⟨hr, .inr ⟨g, cap', cur, hv, hB, ?_, hle, hmx, hs, ht⟩⟩
    rw [hg.block]
    · exact hh
    · rcases Nat.lt_or_ge g w.heap.size with h' | h'
      · exact h'
      · simp [Array.getElem?_eq_none h'] at hh
theorem own_baseR {w : World} {B : Nat} {E : TypeId} {p : Nat} {len cap n size : Nat} {rows : List Value} (h : w.ownsRow B E size (.slice (some ⟨p, 0, none⟩) len cap) n rows) : B ≤ p := by
  obtain ⟨hr, h0 | ⟨g, cap', cur, hv, hB, hh, hle, hmx, hs, ht⟩⟩ := h
  · cases h0.1
  · simp only [Value.slice.injEq, Option.some.injEq, Addr.mk.injEq] at hv
    obtain ⟨⟨rfl, _⟩, _⟩ := hv
    exact hB
theorem enters_Refers1 : Enters Tryz.prog 40 := ⟨fun a w => by go_simp⟩
theorem refers1_any (cs : List Value) (x : Fk) (name : ByteArray) (b : Nat) (w : World) (h : Kd.fk.rd w (· < w.heap.size) cs x) (hb : b < w.heap.size) (hc : w.cell? ⟨b, 0, none⟩ = some (.string name)) :
    Calls Tryz.prog 40 #[.agg cs.toArray, .pointer (some ⟨b, 0, none⟩)] w (Ret w (.bool (refP name x))) := by
  obtain ⟨Ac, Lc, Cc, rfl, h1, h2⟩ := h
  go_enter Tryz.func40, Tryz.ntmps40
  go_wp2
  go_ret
  exact ⟨rfl, (by repeat (with_reducible first | exact Grow.refl _ | assumption | refine Grow.drew ?_ | refine Grow.alloc ?_ _ | refine Grow.set ?_ (by first | exact Nat.le_refl _ | (simp; done) | (simp; omega) | omega) _ | exact And.left (by assumption) | refine Grow.trans ?_ (by assumption)))⟩
set_option maxHeartbeats 2000000 in
theorem iRefers_any {A : Option Addr} {len cap : Nat} {s : List Table} (name : ByteArray) (w : World) (h : IsSl Kd.table w (· < w.heap.size) A len cap s) :
    Calls Tryz.prog 16 #[.slice A len cap, .string name] w (IntsRes (refersV s name) w) := by
  have HL := Lib.hid h.1
  obtain ⟨iv, hiv, hz0, hz1, hz2⟩ := info_parts info_int
  cases hok : schemaOkB s with
  | false =>
    have hr := Lib.hid (show refersV s name = [] by rw [refersV, hok]; rfl)
    go_enter Tryz.func16, Tryz.ntmps16
    go_wp2_with fail
    generalize hN : World.alloc w _ = N
    obtain ⟨hg, s0, b0⟩ := boxedB hN
    clear hN
    generalize hM : World.alloc N _ = M
    obtain ⟨gM, sM, bM⟩ := boxedB hM
    obtain ⟨kM, fM⟩ := free_of bM
    clear hM
    refine (iSchemaOk_any _ (h.grow (hg.trans gM))).mono ?_
    rintro e w1 ⟨rfl, hb⟩
    go_wp2
    go_ret
    exact ⟨_, 0, 0, rfl, by rw [hr.out]; exact ⟨rfl, Nat.le_refl _, Nat.zero_le _, fun h => absurd h (Nat.lt_irrefl _)⟩, (hg.trans gM).trans hb⟩
  | true =>
    have h5 : len ≤ 5 := by
      have := hok
      simp only [schemaOkB, Bool.and_eq_true, decide_eq_true_eq] at this
      rw [← h.1]; exact this.1.1
    have hr := Lib.hid (show refersV s name = refIx s name s.length by rw [refersV, hok]; rfl)
    go_enter Tryz.func16, Tryz.ntmps16
    go_wp2_with fail
    generalize hN : World.alloc w _ = N
    obtain ⟨hg, s0, k0⟩ := boxed1 hN
    have hNs : N.heap.size = w.heap.size + 1 := by rw [← hN]; simp
    clear hN
    generalize hM : World.alloc N _ = M
    obtain ⟨gM, sM, bM⟩ := boxedB hM
    clear hM
    refine (iSchemaOk_any _ (h.grow (hg.trans gM))).mono ?_
    rintro e w1 ⟨rfl, hb⟩
    have hown0 : w1.ownsRow N.heap.size 2 1 (.slice (some ⟨w.heap.size + 1, 0, none⟩) 0 0) 0 [] := by
      rw [← hNs]
      exact ⟨rfl, .inr ⟨_, 0, #[], rfl, Nat.le_refl _, (hb.block sM).trans bM, Nat.le_refl _, by simp [maxLen], rfl, rfl⟩⟩
    have gN1 : Grow N w1 := gM.trans hb
    have HNs := Lib.hid hNs
    clear hNs
    go_wp2
    go_loopw [5, 6, 7, 15] (fun sv _ _ i wr => ∃ (k p c n : Nat) (rows : List Value), k ≤ len ∧ i = .int .i64 k ∧ sv = .slice (some ⟨p, 0, none⟩) n c ∧ wr.ownsRow N.heap.size 2 1 sv n rows ∧ Hid (Flat Kd.int wr (fun _ => False) rows (refIx s name k)) ∧ Hid (n = (refIx s name k).length) ∧ n ≤ k ∧ Grow N wr) (fun _ _ _ i _ => len - (intOf i).toNat)
    case atStart => exact ⟨0, _, 0, 0, [], Nat.zero_le _, rfl, rfl, hown0, Lib.hid rfl, Lib.hid rfl, Nat.le_refl _, gN1⟩
    case round =>
      obtain ⟨k, p, c, n, rows, hk, rfl, rfl, hown, hf, hn, hnk, hG⟩ := hrel
      have hsN := Nat.lt_of_lt_of_le s0 hG.size
      have kn := (hG.same _ _ s0).trans (k0 0)
      by_cases hlt : k < len
      · obtain ⟨b, off, x, Bcols, Mcols, Dcols, Bkey, Mkey, Dkey, Buniques, Muniques, Duniques, Bchecks, Mchecks, Dchecks, Bfks, Mfks, Dfks, rfl, hx, _, hb2, zname', c0, c1, c2, c3, c4, c5, -, -, -, -, sfks, -⟩ := table_at (h.grow (hg.trans hG)) hlt
        have hP := own_baseR hown
        go_wp2_with fail
        generalize hV : World.alloc wr _ = V
        obtain ⟨gV, sV, kV⟩ := boxed1 hV
        clear hV
        cases hrt : refT name x with
        | false =>
          have hix := Lib.hid (refIx_no (s := s) (name := name) hx.out hrt)
          refine (containsFunc_fk _ enters_Refers1 _ _ (refP name) _ (sfks.grow gV) (fun cs u w' _ hw hrd => by simpa using refers1_any cs u name _ w' hrd (Nat.lt_of_lt_of_le hsN (gV.trans hw).size) (((gV.trans hw).same _ _ hsN).trans kn)) hrt).mono ?_
          rintro e w2 ⟨rfl, hb3⟩
          have g2 := gV.trans hb3
          go_wp2
          go_roundw
          case rel => exact ⟨k + 1, p, c, n, rows, by omega, by go_num, rfl, own_growR hown g2, Lib.hid (by rw [hix.out]; exact Flat.mono (fun _ h => h) (fun _ h => h.elim) hf.out), Lib.hid (by rw [hix.out]; exact hn.out), by omega, hG.trans g2⟩
          case measure => simp [intOf]; omega
        | true =>
          have hix := Lib.hid (refIx_yes (s := s) (name := name) hx.out hrt)
          refine (containsFunc_fk _ enters_Refers1 _ _ (refP name) _ (sfks.grow gV) (fun cs u w' _ hw hrd => by simpa using refers1_any cs u name _ w' hrd (Nat.lt_of_lt_of_le hsN (gV.trans hw).size) (((gV.trans hw).same _ _ hsN).trans kn)) hrt).mono ?_
          rintro e w2 ⟨rfl, hb3⟩
          have g2 := gV.trans hb3
          have hgs := (hG.trans g2).size
          go_wp2_with (at_builtin; refine wpList_append_lies _ rfl _ _ 29 rfl N.heap.size 2 iv _ 1 8 Tryz.underlying29 hiv hz0 hz1 hz2 (by rfl) (by decide) _ n rows (by rfl) (own_growR hown (g2.alloc _)) ⟨w2.heap.size, 0, none⟩ 1 1 [.int .i64 k] (by rfl) (by rfl) (World.news_of_block (new_block _ _)) (fun x hx => by simp at hx; subst hx; rfl) (by decide) (by unfold maxLen; omega) (by omega) (by simp; omega) _ rfl ?_; intro g cap w7 hown7 hgrow7 hat hlt7; have gW7 : Grow N w7 := (Below.grown ((hG.trans g2).alloc _) hgrow7 (by simp; omega) (fun q hq => by simp [Value.ownBlock] at hq; subst hq; exact hP)))
          go_roundw
          case rel => exact ⟨k + 1, g, cap, n + 1, _, by omega, by go_num, rfl, hown7, Lib.hid (by rw [hix.out]; exact Flat.append (k := Kd.int) (w := w7) (S := fun _ => False) (cs := [.int .i64 k]) (x := (k : Int)) rfl (Flat.mono (fun _ h => h) (fun _ h => h.elim) hf.out)), Lib.hid (by rw [hix.out, List.length_append, ← hn.out]; rfl), by omega, gW7⟩
          case measure => simp [intOf]; omega
      · obtain rfl : k = len := by omega
        have hres := Lib.hid (own_isSl (S' := Fresh w.heap.size wr) hown hf.out hn.out.symm (fun _ h => h.elim) (fun b hB hlt hfr => ⟨Nat.le_trans hg.size hB, hlt, hfr⟩))
        rw [HL.out] at hr
        go_wp2
        go_ret
        exact ⟨_, _, _, rfl, by rw [hr.out]; exact hres.out, hg.trans hG⟩
end Go.Proofs.YtjeilgogjoidjaaGreat
