import Derived.Test.YtdgmoplfiodahaaGreatDoorTextP
import Derived.Test.YtdgmoplfiodahaaGreatDoorExpr
import Derived.Lib.Join
import Derived.Lib.SplitLaws
/-! Texts of expressions, in plain Lean: what is written, and that both readers read it back. -/
namespace Go.Proofs.YtdgmoplfiodahaaGreatDoor
open Go.RowKit
set_option linter.unusedVariables false
set_option linter.unusedSimpArgs false
def opL (k : Int) : List UInt8 :=
  if k = 3 then [61] else if k = 4 then [60] else if k = 5 then [97, 110, 100] else if k = 6 then [111, 114] else if k = 7 then [110, 111, 116] else
  if k = 8 then [105, 115, 110, 117, 108, 108] else if k = 9 then [43] else [45]
/-- The word of a part. -/
def wordL (t : Tok) : List UInt8 := if t.kind = 1 then 35 :: Lib.itoa t.col else if t.kind = 2 then textL t.v else opL t.kind
def joinL (ws : List (List UInt8)) : List UInt8 := Lib.join ws [32]
/-- ExprText. -/
def textE (e : List Tok) : List UInt8 := if exprB 16 e = true then joinL (e.map wordL) else []
/-- What stands between blanks. -/
def wordsL : List UInt8 → List (List UInt8)
  | [] => [[]]
  | c :: r => if c = 32 then [] :: wordsL r else match wordsL r with
    | [] => [[c]]
    | w :: ws => (c :: w) :: ws
theorem wordsL_ne (l : List UInt8) : wordsL l ≠ [] := by
  cases l with
  | nil => simp [wordsL]
  | cons c r => unfold wordsL; split <;> (try split) <;> simp
theorem wordsL_one {w : List UInt8} (h : (32 : UInt8) ∉ w) : wordsL w = [w] := by
  induction w with
  | nil => rfl
  | cons c r ih =>
    simp only [List.mem_cons, not_or] at h
    rw [wordsL, if_neg (fun e => h.1 e.symm), ih h.2]
theorem wordsL_cut {w : List UInt8} (h : (32 : UInt8) ∉ w) (r : List UInt8) : wordsL (w ++ 32 :: r) = w :: wordsL r := by
  induction w with
  | nil => rfl
  | cons c w ih =>
    simp only [List.mem_cons, not_or] at h
    rw [List.cons_append, wordsL, if_neg (fun e => h.1 e.symm), ih h.2]
theorem joinL_cons (x y : List UInt8) (r : List (List UInt8)) : joinL (x :: y :: r) = x ++ 32 :: joinL (y :: r) := by
  unfold joinL Lib.join; rw [List.intercalate_cons_cons]; simp
theorem words_join : ∀ {ws : List (List UInt8)}, ws ≠ [] → (∀ w ∈ ws, (32 : UInt8) ∉ w) → wordsL (joinL ws) = ws
  | [], h, _ => absurd rfl h
  | [x], _, hw => by
    have : joinL [x] = x := Lib.join_one x [32]
    rw [this]; exact wordsL_one (hw x (by simp))
  | x :: y :: r, _, hw => by
    rw [joinL_cons, wordsL_cut (hw x (by simp)), words_join (by simp) (fun w h => hw w (by simp at h ⊢; exact .inr h))]
/-! ### No blank in a word -/
theorem dec_blank (u : Nat) : (32 : UInt8) ∉ Lib.decDigits u := by
  induction u using Nat.strongRecOn with
  | _ u ih =>
    have hd : ∀ d, d < 10 → (32 : UInt8) ≠ UInt8.ofNat (48 + d) := fun d hd h => by
      have := congrArg UInt8.toNat h
      rw [digit_toNat hd] at this
      have : (32 : UInt8).toNat = 32 := rfl
      omega
    by_cases h : u < 10
    · rw [Lib.decDigits_one h]
      simpa using hd u h
    · rw [Lib.decDigits, dif_neg h, List.mem_append, not_or]
      exact ⟨ih _ (by omega), by simpa using hd (u % 10) (by omega)⟩
theorem itoa_blank (n : Int) : (32 : UInt8) ∉ Lib.itoa n := by
  unfold Lib.itoa
  split
  · simp only [List.mem_cons, not_or]; exact ⟨by decide, dec_blank _⟩
  · exact dec_blank _
theorem hexD_blank : ∀ n : Fin 16, (32 : UInt8) ≠ hexD n.val := by decide +kernel
theorem esc_blank (c : UInt8) : (32 : UInt8) ∉ escL c := by
  unfold escL
  split
  · rename_i h
    simp only [List.mem_singleton]
    rintro rfl
    revert h; decide
  · simp only [List.mem_cons, not_or, List.not_mem_nil, not_false_iff, and_true]
    exact ⟨by decide, hexD_blank ⟨c.toNat / 16, by have := c.toNat_lt; omega⟩, hexD_blank ⟨c.toNat % 16, by omega⟩⟩
theorem text_blank (v : Val) : (32 : UInt8) ∉ textL v := by
  unfold textL
  split
  · split
    · decide
    · split
      · exact itoa_blank _
      · simp only [List.mem_cons, List.mem_append, not_or, List.not_mem_nil, not_false_iff, and_true]
        refine ⟨by decide, fun h => ?_, by decide⟩
        obtain ⟨c, _, hc⟩ := List.mem_flatMap.mp h
        exact esc_blank c hc
  · simp
theorem op_blank (k : Int) : (32 : UInt8) ∉ opL k := by
  unfold opL
  repeat (first | (split; · decide) | decide)
theorem word_blank (t : Tok) : (32 : UInt8) ∉ wordL t := by
  unfold wordL
  split
  · simp only [List.mem_cons, not_or]; exact ⟨by decide, itoa_blank _⟩
  · split
    · exact text_blank _
    · exact op_blank _
/-! ### A word's part -/
def opTok (k : Int) : Tok := ⟨k, 0, zeroV⟩
def opOf (w : List UInt8) : Option Int :=
  if w = opL 3 then some 3 else if w = opL 4 then some 4 else if w = opL 5 then some 5 else if w = opL 6 then some 6 else if w = opL 7 then some 7 else
  if w = opL 8 then some 8 else if w = opL 9 then some 9 else if w = opL 10 then some 10 else none
def iTok (w : List UInt8) : Tok := match opOf w with
  | some k => opTok k
  | none => if w.head? = some 35 then ⟨1, pint w.tail, zeroV⟩ else ⟨2, 0, (readV w).1⟩
def sTok (w : List UInt8) : Option Tok := match opOf w with
  | some k => some (opTok k)
  | none => if 1 < w.length ∧ w.head? = some 35 then (numV w.tail).map (fun n => ⟨1, n, zeroV⟩) else if (readV w).2 = true then some ⟨2, 0, (readV w).1⟩ else none
theorem opOf_op {k : Int} (h0 : 3 ≤ k) (h1 : k ≤ 10) : opOf (opL k) = some k := by
  have : k = 3 ∨ k = 4 ∨ k = 5 ∨ k = 6 ∨ k = 7 ∨ k = 8 ∨ k = 9 ∨ k = 10 := by omega
  rcases this with rfl | rfl | rfl | rfl | rfl | rfl | rfl | rfl <;> decide +kernel
theorem opOf_head {w : List UInt8} {c : UInt8} (hw : w.head? = some c) (hc : c ∉ [61, 60, 97, 111, 110, 105, 43, 45]) : opOf w = none := by
  have key : ∀ k, opL k ≠ w := fun k he => by
    subst he
    unfold opL at hw
    apply hc
    repeat (first | (split at hw; · (simp at hw; subst hw; decide)) | (simp at hw; subst hw; decide))
  unfold opOf
  rw [if_neg (fun h => key _ h.symm), if_neg (fun h => key _ h.symm), if_neg (fun h => key _ h.symm), if_neg (fun h => key _ h.symm), if_neg (fun h => key _ h.symm), if_neg (fun h => key _ h.symm), if_neg (fun h => key _ h.symm), if_neg (fun h => key _ h.symm)]
theorem opOf_dec (u : Nat) : opOf (Lib.decDigits u) = none := by
  obtain ⟨c, r, e, h2, h3, _⟩ := dec_head u
  refine opOf_head (c := c) (by rw [e]; rfl) (fun h => ?_)
  simp at h
  rcases h with rfl | rfl | rfl | rfl | rfl | rfl | rfl | rfl <;> simp at h2 h3
theorem opOf_itoa (n : Int) : opOf (Lib.itoa n) = none := by
  unfold Lib.itoa
  split
  · obtain ⟨c, r, e, h2, h3, _⟩ := dec_head n.natAbs
    rw [e]
    unfold opOf opL
    simp
  · exact opOf_dec _
theorem opOf_text {v : Val} (h : okB v = true) : opOf (textL v) = none := by
  rcases ok_cases h with rfl | ⟨n, h0, h1, rfl⟩ | ⟨s, hs, rfl⟩
  · rw [text_zero]; decide +kernel
  · rw [text_int h0 h1]; exact opOf_itoa n
  · rw [text_str hs]; exact opOf_head (c := 39) rfl (by decide)
theorem text_head {v : Val} : (textL v).head? ≠ some 35 := by
  by_cases h : okB v = true
  · rcases ok_cases h with rfl | ⟨n, h0, h1, rfl⟩ | ⟨s, hs, rfl⟩
    · rw [text_zero]; decide
    · rw [text_int h0 h1]
      obtain ⟨c, r, e, hc⟩ := itoa_head n
      rw [e]
      intro h'
      simp at h'
      subst h'
      rcases hc with hc | hc
      · cases hc
      · simp at hc
    · rw [text_str hs]; simp
  · unfold textL; rw [if_neg h]; simp
theorem isZ_zero {v : Val} (h : isZ v = true) : v = zeroV := by
  obtain ⟨k, n, s⟩ := v
  simp only [isZ, Bool.and_eq_true, beq_iff_eq] at h
  rw [h.1, h.2.1, empty_of h.2.2]; rfl
theorem tok_cases {t : Tok} (h : isTokB t 16 = true) : (∃ n : Int, 0 ≤ n ∧ n ≤ 15 ∧ t = ⟨1, n, zeroV⟩) ∨ (∃ v, okB v = true ∧ t = ⟨2, 0, v⟩) ∨ ∃ k : Int, 3 ≤ k ∧ k ≤ 10 ∧ t = opTok k := by
  obtain ⟨k, c, v⟩ := t
  unfold isTokB at h
  dsimp only at h
  split at h
  · rename_i hk
    simp only [inB, Bool.and_eq_true, decide_eq_true_eq] at h
    exact .inl ⟨c, h.1.1, by omega, by rw [hk, isZ_zero h.2]⟩
  · split at h
    · rename_i hk
      simp only [Bool.and_eq_true, beq_iff_eq] at h
      exact .inr (.inl ⟨v, h.2, by rw [hk, h.1]⟩)
    · simp only [inB, Bool.and_eq_true, decide_eq_true_eq, beq_iff_eq] at h
      exact .inr (.inr ⟨k, h.1.1, h.1.2, by rw [h.2.1, isZ_zero h.2.2]; rfl⟩)
theorem opTok_word {k : Int} (h0 : 3 ≤ k) (h1 : k ≤ 10) : wordL (opTok k) = opL k := by
  unfold wordL opTok
  dsimp only
  rw [if_neg (by omega), if_neg (by omega)]
theorem iTok_word {t : Tok} (h : isTokB t 16 = true) : iTok (wordL t) = t := by
  rcases tok_cases h with ⟨n, h0, h1, rfl⟩ | ⟨v, hv, rfl⟩ | ⟨k, h0, h1, rfl⟩
  · have : wordL ⟨1, n, zeroV⟩ = 35 :: Lib.itoa n := rfl
    have hh : (35 :: Lib.itoa n : List UInt8).head? = some 35 := rfl
    rw [this, iTok, opOf_head (c := 35) rfl (by decide)]
    dsimp only
    rw [if_pos hh, List.tail_cons, pint_itoa n (by omega) (by omega)]
  · have : wordL ⟨2, 0, v⟩ = textL v := rfl
    rw [this, iTok, opOf_text hv]
    dsimp only
    rw [if_neg text_head, readV_text hv]
  · rw [opTok_word h0 h1, iTok, opOf_op h0 h1]
theorem sTok_word {t : Tok} (h : isTokB t 16 = true) : sTok (wordL t) = some t := by
  rcases tok_cases h with ⟨n, h0, h1, rfl⟩ | ⟨v, hv, rfl⟩ | ⟨k, h0, h1, rfl⟩
  · have : wordL ⟨1, n, zeroV⟩ = 35 :: Lib.itoa n := rfl
    rw [this, sTok, opOf_head (c := 35) rfl (by decide)]
    dsimp only
    obtain ⟨c, r, e, _⟩ := itoa_head n
    rw [if_pos ⟨by rw [e]; simp, rfl⟩, List.tail_cons, numV_itoa n (by omega) (by omega)]
    rfl
  · have : wordL ⟨2, 0, v⟩ = textL v := rfl
    rw [this, sTok, opOf_text hv]
    dsimp only
    rw [if_neg (fun x => text_head x.2), readV_text hv, if_pos rfl]
  · rw [opTok_word h0 h1, sTok, opOf_op h0 h1]
/-! ### Expressions -/
theorem exprRun_toks {cols : Int} : ∀ (e : List Tok) (r : Option Int) (x : Int), e.foldl (exprStep cols) r = some x → ∀ t ∈ e, isTokB t cols = true
  | [], _, _, _, t, ht => absurd ht (by simp)
  | a :: e, r, x, h, t, ht => by
    simp only [List.foldl_cons] at h
    cases r with
    | none =>
      have : exprStep cols none a = none := rfl
      rw [this, foldl_none] at h; cases h
    | some l =>
      rcases List.mem_cons.mp ht with rfl | ht
      · by_cases hc : isTokB t cols = true ∧ takesB t ≤ l
        · exact hc.1
        · have : exprStep cols (some l) t = none := by unfold exprStep; rw [Option.bind_some, if_neg hc]
          rw [this, foldl_none] at h; cases h
      · exact exprRun_toks e _ x h t ht
theorem expr_parts {e : List Tok} (h : exprB 16 e = true) : e ≠ [] ∧ e.length ≤ 24 ∧ ∀ t ∈ e, isTokB t 16 = true := by
  simp only [exprB, exprL, Bool.and_eq_true, decide_eq_true_eq] at h
  refine ⟨?_, h.2.2, exprRun_toks e _ 1 h.2.1⟩
  rintro rfl
  exact absurd h.2.1 (by decide)
theorem textE_ok {e : List Tok} (h : textE e ≠ []) : exprB 16 e = true := by
  unfold textE at h
  split at h
  · assumption
  · exact absurd rfl h
theorem textE_words {e : List Tok} (h : exprB 16 e = true) : wordsL (textE e) = e.map wordL := by
  unfold textE
  rw [if_pos h]
  refine words_join (by simpa using (expr_parts h).1) (fun w hw => ?_)
  obtain ⟨t, _, rfl⟩ := List.mem_map.mp hw
  exact word_blank t
theorem word_ne {t : Tok} (h : isTokB t 16 = true) : wordL t ≠ [] := by
  rcases tok_cases h with ⟨n, h0, h1, rfl⟩ | ⟨v, hv, rfl⟩ | ⟨k, h0, h1, rfl⟩
  · exact List.cons_ne_nil _ _
  · exact text_ne hv
  · rw [opTok_word h0 h1]
    have : k = 3 ∨ k = 4 ∨ k = 5 ∨ k = 6 ∨ k = 7 ∨ k = 8 ∨ k = 9 ∨ k = 10 := by omega
    rcases this with rfl | rfl | rfl | rfl | rfl | rfl | rfl | rfl <;> decide
theorem textE_ne {e : List Tok} (h : exprB 16 e = true) : textE e ≠ [] := by
  intro h0
  have hw := textE_words h
  rw [h0] at hw
  obtain ⟨hne, _, ht⟩ := expr_parts h
  cases e with
  | nil => exact hne rfl
  | cons a r =>
    have : wordsL [] = [[]] := rfl
    rw [this] at hw
    simp only [List.map_cons, List.cons.injEq] at hw
    exact word_ne (ht a (by simp)) hw.1.symm
/-- ReadExpr. -/
def readE (l : List UInt8) : List Tok × Bool :=
  if l ≠ [] ∧ (wordsL l).length ≤ 24 ∧ textE ((wordsL l).map iTok) = l then ((wordsL l).map iTok, true) else ([], false)
theorem words_iTok {e : List Tok} (h : exprB 16 e = true) : (wordsL (textE e)).map iTok = e := by
  rw [textE_words h, List.map_map]
  have : ∀ x ∈ e, (iTok ∘ wordL) x = id x := fun t ht => iTok_word ((expr_parts h).2.2 t ht)
  rw [List.map_congr_left this]; simp
theorem readE_text {e : List Tok} (h : exprB 16 e = true) : readE (textE e) = (e, true) := by
  unfold readE
  rw [words_iTok h, if_pos ⟨textE_ne h, by rw [textE_words h]; simpa using (expr_parts h).2.1, rfl⟩]
theorem readE_of {l : List UInt8} {e : List Tok} (hl : l ≠ []) (h : textE e = l) : readE l = (e, true) := by
  subst h
  exact readE_text (textE_ok hl)
theorem readE_not {l : List UInt8} (h : l = [] ∨ ∀ e, textE e ≠ l) : readE l = ([], false) := by
  unfold readE
  rw [if_neg]
  rintro ⟨h1, _, h2⟩
  rcases h with h | h
  · exact h1 h
  · exact h _ h2
theorem readE_back {l : List UInt8} {e : List Tok} (h : readE l = (e, true)) : textE e = l := by
  unfold readE at h
  split at h
  · rename_i h'
    injection h with h _
    rw [← h]; exact h'.2.2
  · injection h with _ h; cases h
theorem readE_bad {e : List Tok} (h : exprB 16 e = false) : textE e = [] := by unfold textE; simp [h]
/-- The reference: a word that is none, or too many words. -/
theorem readE_word {l w : List UInt8} (hw : w ∈ wordsL l) (h : sTok w = none) : readE l = ([], false) := by
  refine readE_not ?_
  by_cases hl : l = []
  · exact .inl hl
  · refine .inr fun e he => ?_
    have hok := textE_ok (e := e) (by rw [he]; exact hl)
    have hws := textE_words hok
    rw [he] at hws
    rw [hws] at hw
    obtain ⟨t, ht, rfl⟩ := List.mem_map.mp hw
    rw [sTok_word ((expr_parts hok).2.2 t ht)] at h
    cases h
theorem readE_many {l : List UInt8} (h : 24 < (wordsL l).length) : readE l = ([], false) := by
  unfold readE
  rw [if_neg]
  rintro ⟨_, h2, _⟩
  omega
theorem readE_all {l : List UInt8} {e : List Tok} (h : (wordsL l).map sTok = e.map some) :
    readE l = if textE e = l ∧ l ≠ [] then (e, true) else ([], false) := by
  by_cases hl : l = []
  · rw [readE_not (.inl hl), if_neg (fun x => x.2 hl)]
  · by_cases ht : textE e = l
    · rw [if_pos ⟨ht, hl⟩]; exact readE_of hl ht
    · rw [if_neg (fun x => ht x.1)]
      refine readE_not (.inr fun f hf => ?_)
      have hok := textE_ok (e := f) (by rw [hf]; exact hl)
      have hws := textE_words hok
      rw [hf] at hws
      rw [hws, List.map_map] at h
      have : f.map (sTok ∘ wordL) = f.map some := List.map_congr_left fun t ht => sTok_word ((expr_parts hok).2.2 t ht)
      rw [this] at h
      have : f = e := by
        have h2 := congrArg (List.filterMap id) h
        simpa [List.filterMap_map] using h2
      exact ht (this ▸ hf)
end Go.Proofs.YtdgmoplfiodahaaGreatDoor
