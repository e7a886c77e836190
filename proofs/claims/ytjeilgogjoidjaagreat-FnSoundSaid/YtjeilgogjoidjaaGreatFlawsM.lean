import Derived.Test.YtjeilgogjoidjaaGreatFlawsK
/-! The flaws of the reference: a row's references. -/
namespace Go.Proofs.YtjeilgogjoidjaaGreat
open Go.RowKit
set_option linter.unusedVariables false
set_option linter.unusedSimpArgs false
theorem l5Parent_eq {cs : List Value} {f : Fk} {A B C : Option Addr} {la ca lb cb lc cc : Nat} {s : List Table} {db : List Data} {vals : List Val} {r : Bool} (hb : lostB s db vals f = r) (w : World) (hs : IsSl Kd.table w (· < w.heap.size) A la ca s) (hd : IsSl Kd.data w (· < w.heap.size) B lb cb db)
    (h : Kd.fk.rd w (· < w.heap.size) cs f) (hv : IsSl Kd.val w (· < w.heap.size) C lc cc vals) (hin : FkIn s db lc f) : Calls Tryz.prog 139 #[.slice A la ca, .slice B lb cb, .agg cs.toArray, .slice C lc cc] w (Ret w (.bool (!r))) := by
  subst hb; exact l5Parent_any cs f w hs hd h hv hin
theorem lost_no {s : List Table} {db : List Data} {d : Bool} {vals : List Val} {t : Table} {k : Nat} {f : Fk} (hf : t.fks[k]? = some f) (h : lostP s db d vals f = false) (hb : (t.fks.take k).any (lostP s db d vals) = false) : (t.fks.take (k + 1)).any (lostP s db d vals) = false := by
  rw [take_snoc hf, List.any_append, hb]; simp [h]
theorem lost_yes {s : List Table} {db : List Data} {d : Bool} {vals : List Val} {t : Table} {k : Nat} {f : Fk} (hf : t.fks[k]? = some f) (h : lostP s db d vals f = true) : (!lostRow s db t vals d) = false := by
  have : lostRow s db t vals d = true := List.any_eq_true.mpr ⟨f, List.mem_of_getElem? hf, h⟩
  rw [this]; rfl
set_option maxHeartbeats 4000000 in
theorem l5Refers_any (wait : Bool) {A B C : Option Addr} {la ca lb cb lc cc : Nat} {s : List Table} {db : List Data} {vals : List Val} {q : Nat} {t : Table} (w : World) (hs : IsSl Kd.table w (· < w.heap.size) A la ca s) (hd : IsSl Kd.data w (· < w.heap.size) B lb cb db)
    (hv : IsSl Kd.val w (· < w.heap.size) C lc cc vals) (hq : s[q]? = some t) (hin : ∀ f ∈ t.fks, FkIn s db lc f) : Calls Tryz.prog 88 #[.slice A la ca, .slice B lb cb, .int .i64 q, .slice C lc cc, .bool wait] w (Ret w (.bool (!lostRow s db t vals (!wait)))) := by
  have hqa : q < la := by rw [← hs.1]; exact (List.getElem?_eq_some_iff.mp hq).1
  obtain ⟨b1, off1, y, Acols, Lcols, Ccols, Akey, Lkey, Ckey, Auniques, Luniques, Cuniques, Achecks, Lchecks, Cchecks, Afks, Lfks, Cfks, rfl, hy, _, hb1, zname, d0, d1, d2, d3, d4, d5, -, -, -, -, sfks, -⟩ := table_at hs hqa
  obtain rfl : y = t := Option.some.inj (hy.out.symm.trans hq)
  have HF := Lib.hid sfks.1
  have HIN := Lib.hid hin
  have q0 : (0 : Int) ≤ (q : Int) := Int.natCast_nonneg q
  have q1 : (q : Int) < (la : Int) := Int.ofNat_lt.mpr hqa
  have hlm := Nat.le_trans sfks.2.1 sfks.2.2.1
  have HLM := Lib.hid hlm
  clear hin hlm hq
  go_enter Tryz.func88, Tryz.ntmps88
  go_wp2
  go_loopw [11] (fun i wr => ∃ (k : Nat), k ≤ Lfks ∧ i = .int .i64 k ∧ (y.fks.take k).any (lostP s db (!wait) vals) = false ∧ Grow w wr) (fun i _ => Lfks - (intOf i).toNat)
  case atStart => exact ⟨0, Nat.zero_le _, rfl, by simp, Grow.refl _⟩
  case round =>
    obtain ⟨k, hk, rfl, hno, hG⟩ := hrel
    have HNO := Lib.hid hno
    clear hno
    have d5r := (hG.same _ _ hb1).trans d5
    have hb1r := Nat.lt_of_lt_of_le hb1 hG.size
    clear d0 d1 d2 d3 d4
    by_cases hlt : k < Lfks
    · obtain ⟨b, off, x, Ax, Lx, Cx, rfl, hx, _, hb, ztable, c0, c1, c2, c3, c4, scols, hrd⟩ := fk_at (sfks.grow hG) hlt
      have hfi := HIN.out x (List.mem_of_getElem? hx.out)
      have HFI := Lib.hid hfi
      have i0 : (0 : Int) ≤ (k : Int) := Int.natCast_nonneg k
      have i1 : (k : Int) < (Lfks : Int) := Int.ofNat_lt.mpr hlt
      obtain ⟨bl, hbl⟩ : ∃ bl, lostB s db vals x = bl := ⟨_, rfl⟩
      have HBL := Lib.hid hbl
      obtain ⟨bd, hbd⟩ : ∃ bd, x.deferred = bd := ⟨_, rfl⟩
      have hlp := Lib.hid (show lostP s db (!wait) vals x = ((!wait || !bd) && bl) by rw [lostP, hbl, hbd])
      have hwk : IntKind.i64.wrap ((k : Int) + 1) = (k : Int) + 1 := IntWalk.i64_in _ (by have := HLM.out; unfold maxLen at this; omega)
      rw [hbd] at c4 hrd
      have HRD := Lib.hid hrd
      clear hfi hbl hbd hrd
      cases wait with
      | false =>
        cases bd with
        | false =>
          go_wp2_with fail
          generalize hX : World.alloc wr _ = X
          obtain ⟨gX, sX, bX⟩ := boxedB hX
          clear hX
          refine (l5Parent_eq HBL.out _ (hs.grow (hG.trans gX)) (hd.grow (hG.trans gX)) (Kd.grow Kd.fk HRD.out gX) (hv.grow (hG.trans gX)) HFI.out).mono ?_
          rintro e w5 ⟨rfl, g5⟩
          cases bl with
          | true =>
            have hf := Lib.hid (lost_yes hx.out (hlp.out.trans (by rfl)))
            go_wp2
            go_ret
            exact ⟨ret_bool hf.out.symm, hG.trans (gX.trans g5)⟩
          | false =>
            have hn := Lib.hid (lost_no hx.out (hlp.out.trans (by rfl)) HNO.out)
            go_wp2
            go_roundw
            case rel => exact ⟨k + 1, by omega, by go_num, hn.out, hG.trans (gX.trans g5)⟩
            case measure => simp [intOf]; omega
        | true =>
          go_wp2_with fail
          generalize hX : World.alloc wr _ = X
          obtain ⟨gX, sX, bX⟩ := boxedB hX
          clear hX
          refine (l5Parent_eq HBL.out _ (hs.grow (hG.trans gX)) (hd.grow (hG.trans gX)) (Kd.grow Kd.fk HRD.out gX) (hv.grow (hG.trans gX)) HFI.out).mono ?_
          rintro e w5 ⟨rfl, g5⟩
          cases bl with
          | true =>
            have hf := Lib.hid (lost_yes hx.out (hlp.out.trans (by rfl)))
            go_wp2
            go_ret
            exact ⟨ret_bool hf.out.symm, hG.trans (gX.trans g5)⟩
          | false =>
            have hn := Lib.hid (lost_no hx.out (hlp.out.trans (by rfl)) HNO.out)
            go_wp2
            go_roundw
            case rel => exact ⟨k + 1, by omega, by go_num, hn.out, hG.trans (gX.trans g5)⟩
            case measure => simp [intOf]; omega
      | true =>
        cases bd with
        | false =>
          go_wp2_with fail
          generalize hX : World.alloc wr _ = X
          obtain ⟨gX, sX, bX⟩ := boxedB hX
          clear hX
          refine (l5Parent_eq HBL.out _ (hs.grow (hG.trans gX)) (hd.grow (hG.trans gX)) (Kd.grow Kd.fk HRD.out gX) (hv.grow (hG.trans gX)) HFI.out).mono ?_
          rintro e w5 ⟨rfl, g5⟩
          cases bl with
          | true =>
            have hf := Lib.hid (lost_yes hx.out (hlp.out.trans (by rfl)))
            go_wp2
            go_ret
            exact ⟨ret_bool hf.out.symm, hG.trans (gX.trans g5)⟩
          | false =>
            have hn := Lib.hid (lost_no hx.out (hlp.out.trans (by rfl)) HNO.out)
            go_wp2
            go_roundw
            case rel => exact ⟨k + 1, by omega, by go_num, hn.out, hG.trans (gX.trans g5)⟩
            case measure => simp [intOf]; omega
        | true =>
          have hn := Lib.hid (lost_no hx.out (hlp.out.trans (by rfl)) HNO.out)
          go_wp2
          go_roundw
          case rel => exact ⟨k + 1, by omega, by go_num, hn.out, hG.alloc _⟩
          case measure => simp [intOf]; omega
    · have hy2 := HNO.out
      rw [List.take_of_length_le (by rw [HF.out]; omega)] at hy2
      have hf := Lib.hid (show (!lostRow s db y vals (!wait)) = true by rw [lostRow, hy2]; rfl)
      clear hy2
      go_wp2
      go_ret
      exact ⟨ret_bool hf.out.symm, hG⟩
end Go.Proofs.YtjeilgogjoidjaaGreat
