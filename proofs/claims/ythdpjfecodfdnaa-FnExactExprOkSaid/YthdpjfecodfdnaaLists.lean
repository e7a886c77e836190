import Derived.Test.YthdpjfecodfdnaaFill
/-! The laws' own functions over slices: sizes, copies, equality. -/
namespace Go.Proofs.Ythdpjfecodfdnaa
open Go.RowKit
set_option linter.unusedVariables false
set_option linter.unusedSimpArgs false

/-- What a size function leaves: -1, or at most what there was, of something small. -/
def SzRes (left : Int) (P : Prop) (w : World) (e : Ending) (w' : World) : Prop := ∃ r : Int, e = .returned (.int .i64 r) ∧ (r = -1 ∨ (0 ≤ r ∧ r ≤ left ∧ P)) ∧ Grow w w'
theorem szn_res {left : Int} {n : Nat} (h0 : 0 ≤ left) : szn left n = -1 ∨ (0 ≤ szn left n ∧ szn left n ≤ left) := by unfold szn; split <;> omega
theorem szTok_any (left : Int) (cs : List Value) (x : Tok) {S : Nat → Prop} {W : World} (h : Kd.tok.rd W S cs x) (w : World) (l0 : 0 ≤ left) (l1 : left ≤ 1048576) :
    Calls Try.prog 45 #[.agg cs.toArray, .int .i64 left] w (SzRes left True w) := by
  obtain ⟨rfl, zs⟩ := h
  go_enter Try.func45, Try.ntmps45
  go_wp2_with fail
  refine (szVal_any _ _ _ _ _ l0 l1 zs).mono ?_
  rintro e w1 ⟨rfl, hb⟩
  have hr := szn_res (n := x.v.s.size) l0
  generalize szn left x.v.s.size = r at hr ⊢
  go_wp2
  all_goals go_ret
  · exact ⟨-1, rfl, .inl rfl, (by repeat (with_reducible first | exact Grow.refl _ | assumption | refine Grow.drew ?_ | refine Grow.alloc ?_ _ | refine Grow.set ?_ (by first | exact Nat.le_refl _ | (simp; done) | (simp; omega) | omega) _ | exact And.left (by assumption) | refine Grow.trans ?_ (by assumption)))⟩
  · exact ⟨r, rfl, .inr ⟨by omega, by omega, trivial⟩, (by repeat (with_reducible first | exact Grow.refl _ | assumption | refine Grow.drew ?_ | refine Grow.alloc ?_ _ | refine Grow.set ?_ (by first | exact Nat.le_refl _ | (simp; done) | (simp; omega) | omega) _ | exact And.left (by assumption) | refine Grow.trans ?_ (by assumption)))⟩
theorem szTokS_any {A : Option Addr} {len cap : Nat} {xs : List Tok} (left : Int) (w : World) (h : IsSl Kd.tok w (· < w.heap.size) A len cap xs) (l0 : 0 ≤ left) (l1 : left ≤ 1048576) :
    Calls Try.prog 11 #[.slice A len cap, .int .i64 left] w (SzRes left (len ≤ 1048576) w) := by
  have hlen : len ≤ maxLen := Nat.le_trans h.2.1 h.2.2.1
  unfold maxLen at hlen
  go_enter Try.func11, Try.ntmps11
  go_wp2
  · go_ret
    exact ⟨-1, rfl, .inl rfl, Grow.refl _⟩
  have hlen' : len ≤ 1048576 := by omega
  go_loopw [1, 4, 5] (fun l _ i wr => ∃ (k : Nat) (r : Int), k ≤ len ∧ i = .int .i64 k ∧ l = .int .i64 r ∧ 0 ≤ r ∧ r ≤ left ∧ Grow w wr) (fun _ _ i _ => len - (intOf i).toNat)
  case atStart => exact ⟨0, _, Nat.zero_le _, rfl, rfl, by omega, by omega, Grow.refl _⟩
  case round =>
    obtain ⟨k, r, hk, rfl, rfl, hr0, hr1, hg⟩ := hrel
    by_cases hlt : k < len
    · obtain ⟨b, off, x, rfl, hx, _, hb, hs, c0, c1, c2, c3, c4, hrd⟩ := tok_at (h.grow hg) hlt
      go_wp2_with fail
      refine (szTok_any r _ x hrd _ hr0 (by omega)).mono ?_
      rintro e w1 ⟨r1, rfl, hr, hb⟩
      go_wp2
      · go_ret
        exact ⟨-1, rfl, .inl rfl, hg.trans hb⟩
      · go_roundw
        case rel => exact ⟨k + 1, r1, by omega, by go_num, rfl, by omega, by omega, hg.trans hb⟩
        case measure => simp [intOf]; omega
    · go_wp2
      go_ret
      exact ⟨r, rfl, .inr ⟨hr0, hr1, hlen'⟩, hg⟩
theorem toTok_any (cs : List Value) (x : Tok) {S : Nat → Prop} {W : World} (h : Kd.tok.rd W S cs x) (w : World) :
    Calls Try.prog 48 #[.agg cs.toArray] w (Ret w (.agg cs.toArray)) := by
  obtain ⟨rfl, zs⟩ := h
  go_enter Try.func48, Try.ntmps48
  go_wp2_with fail
  generalize hW : World.alloc _ _ = W
  obtain ⟨hg, s0, s1, s2, b0, b1, b2⟩ := boxed3 hW
  clear hW
  obtain ⟨k0, f0⟩ := free_of b0
  obtain ⟨k1, f1⟩ := free_of b1
  obtain ⟨k2, f2⟩ := free_of b2
  clear b0 b1 b2
  refine (toVal_any _ _ _ _).mono ?_
  rintro e w1 ⟨rfl, hb⟩
  have hc := hb.same
  have hf := hb.sameF
  go_wp2
  refine bodyPost_ret (v := .agg #[.int .i64 x.kind, .int .i64 x.col, .int .i64 x.v.kind, .int .i64 x.v.n, .string x.v.s]) (by simp [results, Try.results48, go_sem, hc, k0, k1, k2, s0, s1, s2]) rfl ⟨rfl, ?_⟩
  have hgb := hg.trans hb
  exact (by repeat (with_reducible first | exact Grow.refl _ | assumption | refine Grow.drew ?_ | refine Grow.alloc ?_ _ | refine Grow.set ?_ (by first | exact Nat.le_refl _ | (simp; done) | (simp; omega) | omega) _ | exact And.left (by assumption) | refine Grow.trans ?_ (by assumption)))
theorem info_tok : (Try.prog.info? 83).map (fun i => (i.zero, i.size, i.bytes)) = some (some (.agg #[.int .i64 0, .int .i64 0, .int .i64 0, .int .i64 0, .string ⟨#[]⟩]), 5, 48) := by kernel_rfl
theorem toTokS_any {A : Option Addr} {len cap : Nat} {xs : List Tok} (w : World) (h : IsSl Kd.tok w (· < w.heap.size) A len cap xs) (hl : len ≤ 1048576) :
    Calls Try.prog 13 #[.slice A len cap] w (SlRes Kd.tok xs w) := by
  have hlen : len ≤ maxLen := Nat.le_trans h.2.1 h.2.2.1
  have hby : 48 * len ≤ 281474976710656 := by omega
  have HB := Lib.hid hby
  have HL := Lib.hid hlen
  have HX := Lib.hid h.1
  clear hby hl
  obtain ⟨i0, hi, hz0, hz1, hz2⟩ := info_parts info_tok
  unfold maxLen at hlen
  go_enter Try.func13, Try.ntmps13
  go_wp2_with (at_make; refine wpList_make_full _ rfl _ _ 25 rfl w.heap.size 83 i0 _ 5 Try.underlying25 hi hz0 hz1 .i64 .i64 _ _ len rfl rfl rfl rfl (by rw [hz2]; exact HB.out) HL.out (Nat.le_refl _) ?_; intro w0 hown hgrow)
  have hG : Grow w w0 := Below.grown (Below.refl _ _) hgrow (Nat.le_refl _) (fun k hk => by cases hk)
  have hF : Fill Kd.tok 83 w.heap.size w0 w.heap.size len 0 xs := Fill.start rfl hown
  have hwg : w.heap.size ≤ w.heap.size := Nat.le_refl _
  clear hown hgrow hi hz0 hz1 hz2
  go_loopw [4] (fun i wr => ∃ k : Nat, k ≤ len ∧ i = .int .i64 k ∧ Grow w wr ∧ Fill Kd.tok 83 w.heap.size wr w.heap.size len k xs) (fun i _ => len - (intOf i).toNat)
  case atStart => exact ⟨0, Nat.zero_le _, rfl, hG, hF⟩
  case round =>
    obtain ⟨k, hk, rfl, hg, hF⟩ := hrel
    by_cases hlt : k < len
    · obtain ⟨b, off, x, rfl, hx, _, hb, hs, c0, c1, c2, c3, c4, hrd⟩ := tok_at (h.grow hg) hlt
      go_wp2_with fail
      refine (toTok_any _ x hrd _).mono ?_
      rintro e w1 ⟨rfl, hb⟩
      have hF1 := hF.grow hb
      have ff := hF1.free
      obtain ⟨u0, d0⟩ := hF1.there (i := k) (j := 0) hlt (by decide)
      obtain ⟨u1, d1⟩ := hF1.there (i := k) (j := 1) hlt (by decide)
      obtain ⟨u2, d2⟩ := hF1.there (i := k) (j := 2) hlt (by decide)
      obtain ⟨u3, d3⟩ := hF1.there (i := k) (j := 3) hlt (by decide)
      obtain ⟨u4', d4⟩ := hF1.there (i := k) (j := 4) hlt (by decide)
      simp only [Kd.tok, Nat.add_zero] at d0 d1 d2 d3 d4
      have key := Lib.hid (hF1.put hlt hx.out (cs := [.int .i64 x.kind, .int .i64 x.col, .int .i64 x.v.kind, .int .i64 x.v.n, .string x.v.s]) ⟨rfl, hs⟩)
      simp only [setL, show Kd.tok.n = 5 from rfl, Nat.add_assoc, Nat.reduceAdd] at key
      have hgb := hg.trans hb
      go_wp2
      go_roundw
      case rel => exact ⟨k + 1, by omega, by go_num, (by repeat (with_reducible first | exact Grow.refl _ | assumption | refine Grow.drew ?_ | refine Grow.alloc ?_ _ | refine Grow.set ?_ (by first | exact Nat.le_refl _ | (simp; done) | (simp; omega) | omega) _ | exact And.left (by assumption) | refine Grow.trans ?_ (by assumption))), key.out⟩
      case measure => simp [intOf]; omega
    · go_wp2
      have hk' : k = len := by omega
      subst hk'
      go_ret
      exact ⟨_, k, k, rfl, hF.done HX.out HL.out, hg⟩
theorem eqVal_any (k n : Int) (s : ByteArray) (w : World) :
    Calls Try.prog 38 #[.agg #[.int .i64 k, .int .i64 n, .string s], .agg #[.int .i64 k, .int .i64 n, .string s]] w (Ret w (.bool true)) := by
  go_enter Try.func38, Try.ntmps38
  go_wp2
  go_ret
  exact ⟨rfl, (by repeat (with_reducible first | exact Grow.refl _ | assumption | refine Grow.drew ?_ | refine Grow.alloc ?_ _ | refine Grow.set ?_ (by first | exact Nat.le_refl _ | (simp; done) | (simp; omega) | omega) _ | exact And.left (by assumption) | refine Grow.trans ?_ (by assumption)))⟩
theorem eqTok_any (cs : List Value) (x : Tok) {S : Nat → Prop} {W : World} (h : Kd.tok.rd W S cs x) (w : World) :
    Calls Try.prog 52 #[.agg cs.toArray, .agg cs.toArray] w (Ret w (.bool true)) := by
  obtain ⟨rfl, zs⟩ := h
  go_enter Try.func52, Try.ntmps52
  go_wp2_with fail
  refine (eqVal_any _ _ _ _).mono ?_
  rintro e w1 ⟨rfl, hb⟩
  go_wp2
  go_ret
  exact ⟨rfl, (by repeat (with_reducible first | exact Grow.refl _ | assumption | refine Grow.drew ?_ | refine Grow.alloc ?_ _ | refine Grow.set ?_ (by first | exact Nat.le_refl _ | (simp; done) | (simp; omega) | omega) _ | exact And.left (by assumption) | refine Grow.trans ?_ (by assumption)))⟩
theorem eqTokS_any {A A' : Option Addr} {len len' cap cap' : Nat} {xs : List Tok} (w : World) (h : IsSl Kd.tok w (· < w.heap.size) A len cap xs) (h' : IsSl Kd.tok w (· < w.heap.size) A' len' cap' xs) :
    Calls Try.prog 15 #[.slice A len cap, .slice A' len' cap'] w (Ret w (.bool true)) := by
  have hll : len' = len := h'.1.symm.trans h.1
  subst hll
  have hlen : len' ≤ maxLen := Nat.le_trans h.2.1 h.2.2.1
  unfold maxLen at hlen
  go_enter Try.func15, Try.ntmps15
  go_wp2
  go_loopw [5] (fun i wr => ∃ k : Nat, k ≤ len' ∧ i = .int .i64 k ∧ Grow w wr) (fun i _ => len' - (intOf i).toNat)
  case atStart => exact ⟨0, Nat.zero_le _, rfl, Grow.refl _⟩
  case round =>
    obtain ⟨k, hk, rfl, hg⟩ := hrel
    by_cases hlt : k < len'
    · obtain ⟨b, off, x, rfl, hx, _, hb, hs, c0, c1, c2, c3, c4, hrd⟩ := tok_at (h.grow hg) hlt
      obtain ⟨b', off', x', rfl, hx', _, hb', hs', d0, d1, d2, d3, d4, _⟩ := tok_at (h'.grow hg) hlt
      obtain rfl : x = x' := Option.some.inj (hx.out.symm.trans hx'.out)
      have i0 : (0 : Int) ≤ (k : Int) := Int.natCast_nonneg k
      have i1 : (k : Int) < (len' : Int) := Int.ofNat_lt.mpr hlt
      go_wp2
      go_region_held3 (fun w' => Grow wr w' ∧ Same wr w') (exact Grow.both (by repeat (with_reducible first | exact Grow.refl _ | assumption | refine Grow.drew ?_ | refine Grow.alloc ?_ _ | refine Grow.set ?_ (by first | exact Nat.le_refl _ | (simp; done) | (simp; omega) | omega) _ | exact And.left (by assumption) | refine Grow.trans ?_ (by assumption)))) (first | (go_at_call 52; refine (eqTok_any _ x hrd _).mono ?_; rintro e w2 ⟨rfl, hb⟩))
      obtain ⟨hcur, hc⟩ : Grow wr w2 ∧ Same wr w2 := by assumption
      go_wp2
      go_roundw
      case rel => exact ⟨k + 1, by omega, by go_num, hg.trans hcur⟩
      case measure => simp [intOf]; omega
    · go_wp2
      go_ret
      exact ⟨rfl, hg⟩
end Go.Proofs.Ythdpjfecodfdnaa
