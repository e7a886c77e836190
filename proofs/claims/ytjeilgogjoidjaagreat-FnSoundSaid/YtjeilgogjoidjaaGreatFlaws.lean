import Derived.Test.YtjeilgogjoidjaaGreatFlawsL
import Derived.Test.YtjeilgogjoidjaaGreatFlawsN
/-! The reference's Flaws, Sound and SoundNow. -/
namespace Go.Proofs.YtjeilgogjoidjaaGreat
open Go.RowKit
set_option linter.unusedVariables false
set_option linter.unusedSimpArgs false
theorem l5Flaws_eq (deferred : Bool) {A B : Option Addr} {la ca lb cb : Nat} {s : List Table} {db : List Data} {r : Bool} (hr : (flawsV s db (!deferred)).isEmpty = r) (w : World) (hs : IsSl Kd.table w (· < w.heap.size) A la ca s) (hd : IsSl Kd.data w (· < w.heap.size) B lb cb db) (hok : dbOkB s db = true) :
    Calls Tryz.prog 37 #[.slice A la ca, .slice B lb cb, .bool deferred] w (fun e w' => ∃ (P : Option Addr) (l c : Nat), e = .returned (.slice P l c) ∧ ((l : Int) == 0) = r ∧ Grow w w') :=
  (l5Flaws_any deferred w hs hd hok).mono fun e w' ⟨P, l, c, he, hs, hg⟩ => ⟨P, l, c, he, (empty_len hs.1).trans hr, hg⟩
theorem sDbOkF_eq {A B : Option Addr} {la ca lb cb : Nat} {s : List Table} {db : List Data} {r : Bool} (hr : dbOkB s db = r) (w : World) (hs : IsSl Kd.table w (· < w.heap.size) A la ca s) (hd : IsSl Kd.data w (· < w.heap.size) B lb cb db) :
    Calls Tryz.prog 36 #[.slice A la ca, .slice B lb cb] w (Ret w (.bool r)) := by subst hr; exact sDbOk_any w hs hd
theorem sSound_any {A B : Option Addr} {la ca lb cb : Nat} {s : List Table} {db : List Data} (w : World) (hs : IsSl Kd.table w (· < w.heap.size) A la ca s) (hd : IsSl Kd.data w (· < w.heap.size) B lb cb db) :
    Calls Tryz.prog 14 #[.slice A la ca, .slice B lb cb] w (Ret w (.bool (soundB s db true))) := by
  cases hok : dbOkB s db with
  | false =>
    have HK := Lib.hid hok
    have hf := Lib.hid (show soundB s db true = false by simp [soundB, hok])
    clear hok
    go_enter Tryz.func14, Tryz.ntmps14
    go_wp2_with fail
    refine (sDbOkF_eq HK.out _ hs hd).mono ?_
    rintro e w1 ⟨rfl, g1⟩
    go_wp2
    go_ret
    exact ⟨ret_bool hf.out.symm, g1⟩
  | true =>
    obtain ⟨b, hb⟩ : ∃ b, (flawsV s db true).isEmpty = b := ⟨_, rfl⟩
    have HK := Lib.hid hok
    have HB := Lib.hid hb
    have hf := Lib.hid (show soundB s db true = b by rw [soundB, hok, hb]; rfl)
    clear hok hb
    go_enter Tryz.func14, Tryz.ntmps14
    go_wp2_with fail
    refine (sDbOkF_eq HK.out _ hs hd).mono ?_
    rintro e w1 ⟨rfl, g1⟩
    go_wp2_with fail
    refine (l5Flaws_eq false HB.out _ (hs.grow g1) (hd.grow g1) HK.out).mono ?_
    rintro e w2 ⟨A2, l2, c2, rfl, hl2, g2⟩
    go_wp2
    go_ret
    exact ⟨ret_bool (by rw [hf.out]), g1.trans g2⟩
theorem sSoundNow_any {A B : Option Addr} {la ca lb cb : Nat} {s : List Table} {db : List Data} (w : World) (hs : IsSl Kd.table w (· < w.heap.size) A la ca s) (hd : IsSl Kd.data w (· < w.heap.size) B lb cb db) :
    Calls Tryz.prog 15 #[.slice A la ca, .slice B lb cb] w (Ret w (.bool (soundB s db false))) := by
  cases hok : dbOkB s db with
  | false =>
    have HK := Lib.hid hok
    have hf := Lib.hid (show soundB s db false = false by simp [soundB, hok])
    clear hok
    go_enter Tryz.func15, Tryz.ntmps15
    go_wp2_with fail
    refine (sDbOkF_eq HK.out _ hs hd).mono ?_
    rintro e w1 ⟨rfl, g1⟩
    go_wp2
    go_ret
    exact ⟨ret_bool hf.out.symm, g1⟩
  | true =>
    obtain ⟨b, hb⟩ : ∃ b, (flawsV s db false).isEmpty = b := ⟨_, rfl⟩
    have HK := Lib.hid hok
    have HB := Lib.hid hb
    have hf := Lib.hid (show soundB s db false = b by rw [soundB, hok, hb]; rfl)
    clear hok hb
    go_enter Tryz.func15, Tryz.ntmps15
    go_wp2_with fail
    refine (sDbOkF_eq HK.out _ hs hd).mono ?_
    rintro e w1 ⟨rfl, g1⟩
    go_wp2_with fail
    refine (l5Flaws_eq true HB.out _ (hs.grow g1) (hd.grow g1) HK.out).mono ?_
    rintro e w2 ⟨A2, l2, c2, rfl, hl2, g2⟩
    go_wp2
    go_ret
    exact ⟨ret_bool (by rw [hf.out]), g1.trans g2⟩
end Go.Proofs.YtjeilgogjoidjaaGreat
