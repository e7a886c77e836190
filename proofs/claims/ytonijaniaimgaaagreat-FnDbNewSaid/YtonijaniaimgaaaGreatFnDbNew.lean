/- The law FnDbNew returns true for every code: a new database is right, has no rows and no flaws. No condition. -/
import Derived.Test.YtonijaniaimgaaaGreatRows
import Derived.Test.YtonijaniaimgaaaGreatDrawT
import Derived.Test.YtonijaniaimgaaaGreatDbNew
import Derived.Test.YtonijaniaimgaaaGreatLawBig
import Derived.Test.YtonijaniaimgaaaGreatLawFind
import Derived.Test.YtonijaniaimgaaaGreatFlawsL
import Derived.ProofKit
import Derived.OpenShut
import Derived.ShutString
import Derived.ChangeOld
import Derived.SizedLaws
namespace Go.Proofs.YtonijaniaimgaaaGreat
open Go.RowKit
set_option linter.unusedVariables false
set_option linter.unusedSimpArgs false
theorem iSound_eq {A B : Option Addr} {la ca lb cb : Nat} {s : List Table} {db : List Data} {r : Bool} (hr : soundB s db true = r) (w : World) (hs : IsSl Kd.table w (· < w.heap.size) A la ca s) (hd : IsSl Kd.data w (· < w.heap.size) B lb cb db) :
    Calls Tryz.prog 17 #[.slice A la ca, .slice B lb cb] w (Ret w (.bool r)) := by subst hr; exact iSound_any w hs hd
theorem sameDb_nil {A B : Option Addr} {len cap len' cap' n : Nat} (w : World) (h : IsSl Kd.data w (· < w.heap.size) A len cap (List.replicate n ⟨[]⟩)) (h' : IsSl Kd.data w (· < w.heap.size) B len' cap' (List.replicate n ⟨[]⟩)) :
    Calls Tryz.prog 34 #[.slice A len cap, .slice B len' cap'] w (Ret w (.bool true)) := by
  have hlen : len ≤ maxLen := Nat.le_trans h.2.1 h.2.2.1
  have hll : len' = len := h'.1.symm.trans h.1
  subst hll
  unfold maxLen at hlen
  have hn : n = len' := by have := h.1; simpa using this
  go_enter Tryz.func34, Tryz.ntmps34
  go_wp2
  go_loopw [5] (fun iv wr => ∃ i : Nat, i ≤ len' ∧ iv = .int .i64 i ∧ Grow w wr) (fun iv _ => len' - (intOf iv).toNat)
  case atStart => exact ⟨0, Nat.zero_le _, rfl, Grow.refl _⟩
  case round =>
    obtain ⟨i, hi, rfl, hg⟩ := hrel
    by_cases hlt : i < len'
    · obtain ⟨b, off, x, Ar, Lr, Cr, rfl, hx, _, hb, c0, sr, hrd⟩ := data_at (h.grow hg) hlt
      obtain ⟨b', off', x', Ar', Lr', Cr', rfl, hx', _, hb', c0', sr', hrd'⟩ := data_at (h'.grow hg) hlt
      have hx0 := hx.out
      have hx1 := hx'.out
      rw [List.getElem?_replicate, if_pos (by omega)] at hx0 hx1
      obtain rfl := Option.some.inj hx0
      obtain rfl := Option.some.inj hx1
      obtain rfl : Lr = 0 := sr.1.symm
      obtain rfl : Lr' = 0 := sr'.1.symm
      have i0 : (0 : Int) ≤ (i : Int) := Int.natCast_nonneg i
      have i1 : (i : Int) < (len' : Int) := Int.ofNat_lt.mpr hlt
      clear hx hx' hx0 hx1 sr sr' hrd hrd'
      go_wp2
      go_region_held3 (fun w' => Grow wr w' ∧ Same wr w') (exact Grow.both (by repeat (with_reducible first | exact Grow.refl _ | assumption | refine Grow.drew ?_ | refine Grow.alloc ?_ _ | refine Grow.set ?_ (by first | exact Nat.le_refl _ | (simp; done) | (simp; omega) | omega) _ | exact And.left (by assumption) | refine Grow.trans ?_ (by assumption)))) (skip)
      obtain ⟨hcur, hc⟩ : Grow wr wr.drew ∧ Same wr wr.drew := (Grow.refl _).drew.both
      go_wp2
      go_loopw [6] (fun kv w2 => kv = .int .i64 0 ∧ w2 = wr.drew) (fun _ _ => 0)
      case atStart => exact ⟨rfl, rfl⟩
      case round =>
        obtain ⟨rfl, rfl⟩ := hrel
        go_wp2
        go_roundw
        case rel => exact ⟨i + 1, by omega, by go_num, hg.drew⟩
        case measure => simp [intOf]; omega
    · go_wp2
      go_ret
      exact ⟨rfl, hg⟩
set_option maxHeartbeats 4000000 in
theorem law_FnDbNew (A : Option Addr) (len cap : Nat) (xs : List Int) {W : World} (h : IsSl Kd.byte W (· < W.heap.size) A len cap xs) (w : World) (hw : w = W) :
    Calls Tryz.prog 7 #[.slice A len cap] w (Ret w (.bool true)) := by
  subst hw
  have hl := Nat.le_trans h.2.1 h.2.2.1
  by_cases hbig : 1048576 < len
  · go_enter Tryz.func7, Tryz.ntmps7
    go_wp2_with fail
    refine (big_yes _ hl hbig).mono ?_
    rintro e w1 ⟨rfl, rfl⟩
    go_wp2
    go_ret
    exact ⟨rfl, Grow.refl _⟩
  go_enter Tryz.func7, Tryz.ntmps7
  go_wp2_with fail
  refine (big_no _ hl hbig).mono ?_
  rintro e w1 ⟨rfl, rfl⟩
  go_wp2_with fail
  refine (drawDbNew_any _ h).mono ?_
  rintro e w1 ⟨A1, n1, c1, s, rfl, hs, hn1, hn3, hb, g1⟩
  clear h
  have hsl := hs.1
  obtain ⟨q, hq⟩ : ∃ q, schemaOkB s = q := ⟨_, rfl⟩
  have HQ := Lib.hid hq
  go_wp2_with fail
  refine (iDbNew_any HQ.out _ hs.fresh).mono ?_
  rintro e w2 ⟨A2, n2, c2, rfl, d2, g2⟩
  have G2 := g1.trans g2
  go_wp2_with fail
  refine (sDbNew_any HQ.out _ (hs.fresh.grow g2)).mono ?_
  rintro e w3 ⟨A3, n3, c3, rfl, d3, g3⟩
  have G3 := G2.trans g3
  cases q with
  | false =>
    go_wp2_with fail
    refine (sameDb_nil _ (d2.fresh.grow g3) d3.fresh).mono ?_
    rintro e w4 ⟨rfl, g4⟩
    go_wp2_with fail
    refine (sameDb_nil _ ((d2.fresh.grow g3).grow g4) (d3.fresh.grow g4)).mono ?_
    rintro e w5 ⟨rfl, g5⟩
    go_wp2
    go_ret
    exact ⟨rfl, G3.trans (g4.trans g5)⟩
  | true =>
    have hnew : newOf s = List.replicate s.length ⟨[]⟩ := by simp [newOf, newN, hq]
    have HOK : Hid (dbOkB s (newOf s) = true) := Lib.hid (by rw [hnew]; exact new_ok hq)
    have HSD : Hid (soundB s (newOf s) true = true) := Lib.hid (by rw [soundB, HOK.out, hnew, new_flaws]; rfl)
    have hn12 : n2 = n1 := by have := d2.1; rw [hnew, List.length_replicate] at this; omega
    subst hn12
    clear hq hnew
    go_wp2_with fail
    refine (sameDb_nil _ (d2.fresh.grow g3) d3.fresh).mono ?_
    rintro e w4 ⟨rfl, g4⟩
    have hs4 := hs.fresh.grow (g2.trans (g3.trans g4))
    have hd4 := d2.fresh.grow (g3.trans g4)
    go_wp2_with fail
    refine (iDbOk_eq HOK.out _ hs4 hd4).mono ?_
    rintro e w5 ⟨rfl, g5⟩
    go_wp2_with fail
    refine (iSound_eq HSD.out _ (hs4.grow g5) (hd4.grow g5)).mono ?_
    rintro e w6 ⟨rfl, g6⟩
    go_wp2
    go_ret
    exact ⟨rfl, G3.trans (g4.trans (g5.trans g6))⟩
end Go.Proofs.YtonijaniaimgaaaGreat
namespace Go.Proofs.YtonijaniaimgaaaGreat.FnDbNew
open Go.ChangeShapes Go.WideShapes Go.ChangeAt Go.RowKit
open Go.ChangeMaps (open_string shut_string)
theorem own : ownKnob Tryz.prog.godebug = none := by kernel_rfl
theorem laidOut : laidOutB Tryz.prog = true := by kernel_rfl
set_option maxRecDepth 100000 in
theorem lifted (os : Os) (started : os.Started) (H : Type) (enc : TypeId × Value → H) :
    ReturnsInHanded {} Tryz.checked os 7 .any (Rows.fnDbNewSpec.pre6 enc Tryz.prog Tryz.f7 Rows.fnDbNewRow.domain false) (Rows.fnDbNewSpec.post enc Tryz.prog Tryz.f7 false true false false) := by
  refine returnsInHanded_of_change_sized (C := Tryz.checked) own started (by kernel_rfl) Tryz.func7
    (ChangeSpec.witness6 (enc := enc) (C := Tryz.checked) false ⟨#[], #[.slice none 0 0], []⟩ 8 (by kernel_rfl) (by kernel_rfl) (by kernel_rfl) (by kernel_rfl)) ?_
  intro W base args ds gs before hval0 hW hcnd hsz0 _
  have hval : ∀ (j : Nat) t v, Tryz.f7.params[j]? = some t → args[j]? = some v → Value.okWide Tryz.prog W .any base t v := hval0
  have hW' := hW
  obtain ⟨p, q, hA0, hV, rfl, hfz, hnd⟩ := hW
  have hA : DataW.TrodAll enc Tryz.prog W 0 (fun _ => true) true Tryz.f7.params.toList args.toList ds p := hA0
  rw [Tryz.params7] at hA hval
  obtain ⟨v0, vs0, d0, ds0, p0, q0, hargs, rfl, rfl, h0, r0⟩ := trodAll_cons hA
  obtain ⟨rfl, rfl, rfl⟩ := trodAll_nil r0
  obtain rfl : args = #[v0] := by cases args; simp_all
  obtain ⟨rfl, rfl⟩ := trodVars_none hV
  have k0 := h0
  have lt0 : ∀ x ∈ p0, x.block < W.heap.size := by obtain ⟨m, hm⟩ := k0; exact DataW.trod_lt m _ _ _ hm
  obtain ⟨A0, len0, cap0, rfl⟩ := okWide_slice Tryz.underlying44 (hval 0 44 v0 rfl rfl)
  obtain ⟨xs0, e0⟩ := opens_bytes.of h0
  replace e0 := isSl_of e0
  clear hA0 hval0 hsz0
  refine (law_FnDbNew A0 len0 cap0 xs0 e0 W rfl).mono fun e W' ⟨he, bel⟩ => ?_
  subst he
  exact ⟨_, rfl, _, _, _, [], _, [], hW', trodAll_mk1 (shut_bool Tryz.underlying4 _), (trodAll_cons_mk (Below.trod laidOut (by kernel_rfl) (of_decide_eq_true (by kernel_rfl)) k0 bel lt0) trodAll_mk0), rfl, Below.frame bel _, fun h => by cases h⟩
theorem over : Rows.fnDbNewRow.holds Tryz.pinned (OpenSpec.ofChange Rows.fnDbNewSpec) :=
  OpenClaim.holds_of_wide 7 Tryz.f7 rfl rfl rfl rfl rfl rfl rfl ⟨rfl, rfl, rfl, rfl, rfl⟩ rfl rfl rfl rfl rfl (by kernel_rfl) Tryz.func7 (by kernel_rfl)
    (of_decide_eq_true (by kernel_rfl)) (by unfold Func.isWrapper; first | (rw [if_pos (by decide +kernel)]; kernel_rfl) | (rw [if_neg (by decide +kernel)]; exact ⟨rfl, rfl⟩))
    (fun os started H enc _ => lifted os started H enc)
theorem proved : Rows.FnDbNewSaid := over
#print axioms proved
end Go.Proofs.YtonijaniaimgaaaGreat.FnDbNew
namespace Go.Proofs.YtonijaniaimgaaaGreat
/-- The row, for the claim. -/
theorem fnDbNew_holds : Rows.FnDbNewSaid := FnDbNew.proved
end Go.Proofs.YtonijaniaimgaaaGreat
