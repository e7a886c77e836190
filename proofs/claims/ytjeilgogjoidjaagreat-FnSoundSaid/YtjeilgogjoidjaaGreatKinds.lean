import Derived.Test.YtjeilgogjoidjaaGreatSlices
import Derived.Test.YtjeilgogjoidjaaGreatLawVals
/-! The program's structs: how they lie in memory. -/
namespace Go.Proofs.YtjeilgogjoidjaaGreat
open Go.RowKit
set_option linter.unusedVariables false
set_option linter.unusedSimpArgs false

theorem val_at {w : World} {S : Nat → Prop} {len cap : Nat} {A : Option Addr} {xs : List Val} (h : IsSl Kd.val w S A len cap xs) {i : Nat} (hi : i < len) :
    ∃ b off x, A = some ⟨b, off, none⟩ ∧ Hid (xs[i]? = some x) ∧ S b ∧ b < w.heap.size ∧ x.s.size ≤ maxLen ∧
      w.cell? ⟨b, off + i * 3, none⟩ = some (.int .i64 x.kind) ∧ w.cell? ⟨b, off + i * 3 + 1, none⟩ = some (.int .i64 x.n) ∧ w.cell? ⟨b, off + i * 3 + 2, none⟩ = some (.string x.s) := by
  obtain ⟨b, off, x, cs, hA, hb, hx, hc, hr⟩ := h.elem hi
  simp only [Kd.val] at hr
  obtain ⟨rfl, hs⟩ := hr
  have h0 := hc 0 (by decide)
  have h1 := hc 1 (by decide)
  have h2 := hc 2 (by decide)
  exact ⟨b, off, x, hA, hx, hb, cells_lt h0, hs, by simpa [Kd.val] using h0, by simpa [Kd.val, Nat.add_assoc] using h1, by simpa [Kd.val, Nat.add_assoc] using h2⟩

structure Tok where
  kind : Int
  col : Int
  v : Val

def Kd.tok : Kd Tok where
  n := 5
  rd := fun w S cs a => cs = [.int .i64 a.kind, .int .i64 a.col, .int .i64 a.v.kind, .int .i64 a.v.n, .string a.v.s] ∧ a.v.s.size ≤ maxLen
  len := fun h => by
    obtain ⟨h0, h1⟩ := h
    rw [h0]; rfl
  mono := fun h hS hw => by
    obtain ⟨h0, h1⟩ := h
    exact ⟨h0, h1⟩

theorem tok_at {w : World} {S : Nat → Prop} {len cap : Nat} {A : Option Addr} {xs : List Tok} (h : IsSl Kd.tok w S A len cap xs) {i : Nat} (hi : i < len) :
    ∃ b off x, A = some ⟨b, off, none⟩ ∧ Hid (xs[i]? = some x) ∧ S b ∧ b < w.heap.size ∧ x.v.s.size ≤ maxLen ∧ w.cell? ⟨b, off + i * 5, none⟩ = some (.int .i64 x.kind) ∧ w.cell? ⟨b, off + i * 5 + 1, none⟩ = some (.int .i64 x.col) ∧ w.cell? ⟨b, off + i * 5 + 2, none⟩ = some (.int .i64 x.v.kind) ∧ w.cell? ⟨b, off + i * 5 + 3, none⟩ = some (.int .i64 x.v.n) ∧ w.cell? ⟨b, off + i * 5 + 4, none⟩ = some (.string x.v.s) ∧ Kd.tok.rd w S [.int .i64 x.kind, .int .i64 x.col, .int .i64 x.v.kind, .int .i64 x.v.n, .string x.v.s] x := by
  obtain ⟨b, off, x, cs, hA, hb, hx, hc, hr⟩ := h.elem hi
  simp only [Kd.tok] at hr
  obtain ⟨h0, h1⟩ := hr
  subst h0
  have c0 := hc 0 (by decide)
  have c1 := hc 1 (by decide)
  have c2 := hc 2 (by decide)
  have c3 := hc 3 (by decide)
  have c4 := hc 4 (by decide)
  exact ⟨b, off, x, hA, hx, hb, cells_lt c0, h1, by simpa [Kd.tok, Nat.add_assoc] using c0, by simpa [Kd.tok, Nat.add_assoc] using c1, by simpa [Kd.tok, Nat.add_assoc] using c2, by simpa [Kd.tok, Nat.add_assoc] using c3, by simpa [Kd.tok, Nat.add_assoc] using c4, ⟨rfl, h1⟩⟩

theorem opens_tok {P : Program} {t t0 t1 t2 : TypeId} {f0 f1 f2 : Field} (ht : P.underlying t = some (.struct #[f0, f1, f2])) (hc : P.cellsOf t = 5)
    (hf : f0.type = t0 ∧ f1.type = t1 ∧ f2.type = t2 ∧ f0.offset = 0 ∧ f1.offset = 1 ∧ f2.offset = 2) (k0 : Opens P t0 Kd.int) (k1 : Opens P t1 Kd.int) (k2 : Opens P t2 Kd.val) : Opens P t Kd.tok := by
  refine ⟨hc, fun H enc w spare held fuel cs x h => ?_⟩
  obtain ⟨xs, n, _, _, hl, hxl, hx⟩ := DataW.trod_struct ht h
  obtain ⟨e0, e1, e2, o0, o1, o2⟩ := hf
  rw [hc] at hl
  match cs, hl with
  | [c0, c1, c2, c3, c4], _ =>
  have hxl' : xs.length = 3 := hxl
  have h0 := hx 0 f0 rfl
  rw [List.getElem?_eq_getElem (by omega), e0, o0, k0.1] at h0
  obtain ⟨a0, r0⟩ := k0.2 _ _ _ _ _ _ _ _ h0
  have h1 := hx 1 f1 rfl
  rw [List.getElem?_eq_getElem (by omega), e1, o1, k1.1] at h1
  obtain ⟨a1, r1⟩ := k1.2 _ _ _ _ _ _ _ _ h1
  have h2 := hx 2 f2 rfl
  rw [List.getElem?_eq_getElem (by omega), e2, o2, k2.1] at h2
  obtain ⟨a2, r2⟩ := k2.2 _ _ _ _ _ _ _ _ h2
  simp [Kd.int] at r0
  simp [Kd.int] at r1
  obtain ⟨q2, z2⟩ := r2
  simp [Kd.val] at q2
  obtain ⟨u2, v2, w2⟩ := q2
  exact ⟨⟨a0, a1, a2⟩, ⟨by rw [r0, r1, u2, v2, w2], z2⟩⟩

structure Col where
  name : ByteArray
  kind : Int
  notNull : Bool
  dflt : Val

def Kd.col : Kd Col where
  n := 6
  rd := fun w S cs a => cs = [.string a.name, .int .i64 a.kind, .bool a.notNull, .int .i64 a.dflt.kind, .int .i64 a.dflt.n, .string a.dflt.s] ∧ a.name.size ≤ maxLen ∧ a.dflt.s.size ≤ maxLen
  len := fun h => by
    obtain ⟨h0, h1, h2⟩ := h
    rw [h0]; rfl
  mono := fun h hS hw => by
    obtain ⟨h0, h1, h2⟩ := h
    exact ⟨h0, h1, h2⟩

theorem col_at {w : World} {S : Nat → Prop} {len cap : Nat} {A : Option Addr} {xs : List Col} (h : IsSl Kd.col w S A len cap xs) {i : Nat} (hi : i < len) :
    ∃ b off x, A = some ⟨b, off, none⟩ ∧ Hid (xs[i]? = some x) ∧ S b ∧ b < w.heap.size ∧ x.name.size ≤ maxLen ∧ x.dflt.s.size ≤ maxLen ∧ w.cell? ⟨b, off + i * 6, none⟩ = some (.string x.name) ∧ w.cell? ⟨b, off + i * 6 + 1, none⟩ = some (.int .i64 x.kind) ∧ w.cell? ⟨b, off + i * 6 + 2, none⟩ = some (.bool x.notNull) ∧ w.cell? ⟨b, off + i * 6 + 3, none⟩ = some (.int .i64 x.dflt.kind) ∧ w.cell? ⟨b, off + i * 6 + 4, none⟩ = some (.int .i64 x.dflt.n) ∧ w.cell? ⟨b, off + i * 6 + 5, none⟩ = some (.string x.dflt.s) ∧ Kd.col.rd w S [.string x.name, .int .i64 x.kind, .bool x.notNull, .int .i64 x.dflt.kind, .int .i64 x.dflt.n, .string x.dflt.s] x := by
  obtain ⟨b, off, x, cs, hA, hb, hx, hc, hr⟩ := h.elem hi
  simp only [Kd.col] at hr
  obtain ⟨h0, h1, h2⟩ := hr
  subst h0
  have c0 := hc 0 (by decide)
  have c1 := hc 1 (by decide)
  have c2 := hc 2 (by decide)
  have c3 := hc 3 (by decide)
  have c4 := hc 4 (by decide)
  have c5 := hc 5 (by decide)
  exact ⟨b, off, x, hA, hx, hb, cells_lt c0, h1, h2, by simpa [Kd.col, Nat.add_assoc] using c0, by simpa [Kd.col, Nat.add_assoc] using c1, by simpa [Kd.col, Nat.add_assoc] using c2, by simpa [Kd.col, Nat.add_assoc] using c3, by simpa [Kd.col, Nat.add_assoc] using c4, by simpa [Kd.col, Nat.add_assoc] using c5, ⟨rfl, h1, h2⟩⟩

theorem opens_col {P : Program} {t t0 t1 t2 t3 : TypeId} {f0 f1 f2 f3 : Field} (ht : P.underlying t = some (.struct #[f0, f1, f2, f3])) (hc : P.cellsOf t = 6)
    (hf : f0.type = t0 ∧ f1.type = t1 ∧ f2.type = t2 ∧ f3.type = t3 ∧ f0.offset = 0 ∧ f1.offset = 1 ∧ f2.offset = 2 ∧ f3.offset = 3) (k0 : Opens P t0 Kd.str) (k1 : Opens P t1 Kd.int) (k2 : Opens P t2 Kd.bool) (k3 : Opens P t3 Kd.val) : Opens P t Kd.col := by
  refine ⟨hc, fun H enc w spare held fuel cs x h => ?_⟩
  obtain ⟨xs, n, _, _, hl, hxl, hx⟩ := DataW.trod_struct ht h
  obtain ⟨e0, e1, e2, e3, o0, o1, o2, o3⟩ := hf
  rw [hc] at hl
  match cs, hl with
  | [c0, c1, c2, c3, c4, c5], _ =>
  have hxl' : xs.length = 4 := hxl
  have h0 := hx 0 f0 rfl
  rw [List.getElem?_eq_getElem (by omega), e0, o0, k0.1] at h0
  obtain ⟨a0, r0⟩ := k0.2 _ _ _ _ _ _ _ _ h0
  have h1 := hx 1 f1 rfl
  rw [List.getElem?_eq_getElem (by omega), e1, o1, k1.1] at h1
  obtain ⟨a1, r1⟩ := k1.2 _ _ _ _ _ _ _ _ h1
  have h2 := hx 2 f2 rfl
  rw [List.getElem?_eq_getElem (by omega), e2, o2, k2.1] at h2
  obtain ⟨a2, r2⟩ := k2.2 _ _ _ _ _ _ _ _ h2
  have h3 := hx 3 f3 rfl
  rw [List.getElem?_eq_getElem (by omega), e3, o3, k3.1] at h3
  obtain ⟨a3, r3⟩ := k3.2 _ _ _ _ _ _ _ _ h3
  obtain ⟨q0, z0⟩ := r0
  simp [Kd.str] at q0
  simp [Kd.int] at r1
  simp [Kd.bool] at r2
  obtain ⟨q3, z3⟩ := r3
  simp [Kd.val] at q3
  obtain ⟨u3, v3, w3⟩ := q3
  exact ⟨⟨a0, a1, a2, a3⟩, ⟨by rw [q0, r1, r2, u3, v3, w3], z0, z3⟩⟩

structure Unique where
  cols : List Int

def Kd.unique : Kd Unique where
  n := 1
  rd := fun w S cs a => ∃ (Acols : Option Addr) (Lcols Ccols : Nat), cs = [.slice Acols Lcols Ccols] ∧ IsSl Kd.int w S Acols Lcols Ccols a.cols
  len := fun h => by
    obtain ⟨Acols, Lcols, Ccols, h0, h1⟩ := h
    rw [h0]; rfl
  mono := fun h hS hw => by
    obtain ⟨Acols, Lcols, Ccols, h0, h1⟩ := h
    exact ⟨Acols, Lcols, Ccols, h0, h1.mono hS hw⟩

theorem unique_at {w : World} {S : Nat → Prop} {len cap : Nat} {A : Option Addr} {xs : List Unique} (h : IsSl Kd.unique w S A len cap xs) {i : Nat} (hi : i < len) :
    ∃ b off x Acols Lcols Ccols, A = some ⟨b, off, none⟩ ∧ Hid (xs[i]? = some x) ∧ S b ∧ b < w.heap.size ∧ w.cell? ⟨b, off + i, none⟩ = some (.slice Acols Lcols Ccols) ∧ IsSl Kd.int w S Acols Lcols Ccols x.cols ∧ Kd.unique.rd w S [.slice Acols Lcols Ccols] x := by
  obtain ⟨b, off, x, cs, hA, hb, hx, hc, hr⟩ := h.elem hi
  simp only [Kd.unique] at hr
  obtain ⟨Acols, Lcols, Ccols, h0, h1⟩ := hr
  subst h0
  have c0 := hc 0 (by decide)
  exact ⟨b, off, x, Acols, Lcols, Ccols, hA, hx, hb, cells_lt c0, by simpa [Kd.unique, Nat.add_assoc] using c0, h1, ⟨Acols, Lcols, Ccols, rfl, h1⟩⟩

theorem opens_unique {P : Program} {t t0 : TypeId} {f0 : Field} (ht : P.underlying t = some (.struct #[f0])) (hc : P.cellsOf t = 1)
    (hf : f0.type = t0 ∧ f0.offset = 0) (k0 : Opens P t0 (Kd.int).sl) : Opens P t Kd.unique := by
  refine ⟨hc, fun H enc w spare held fuel cs x h => ?_⟩
  obtain ⟨xs, n, _, _, hl, hxl, hx⟩ := DataW.trod_struct ht h
  obtain ⟨e0, o0⟩ := hf
  rw [hc] at hl
  match cs, hl with
  | [c0], _ =>
  have hxl' : xs.length = 1 := hxl
  have h0 := hx 0 f0 rfl
  rw [List.getElem?_eq_getElem (by omega), e0, o0, k0.1] at h0
  obtain ⟨a0, r0⟩ := k0.2 _ _ _ _ _ _ _ _ h0
  obtain ⟨A0, L0, C0, q0, s0⟩ := r0
  simp [Kd.int, Kd.sl] at q0
  exact ⟨⟨a0⟩, ⟨A0, L0, C0, by rw [q0], s0⟩⟩

structure Check where
  expr : List Tok

def Kd.check : Kd Check where
  n := 1
  rd := fun w S cs a => ∃ (Aexpr : Option Addr) (Lexpr Cexpr : Nat), cs = [.slice Aexpr Lexpr Cexpr] ∧ IsSl Kd.tok w S Aexpr Lexpr Cexpr a.expr
  len := fun h => by
    obtain ⟨Aexpr, Lexpr, Cexpr, h0, h1⟩ := h
    rw [h0]; rfl
  mono := fun h hS hw => by
    obtain ⟨Aexpr, Lexpr, Cexpr, h0, h1⟩ := h
    exact ⟨Aexpr, Lexpr, Cexpr, h0, h1.mono hS hw⟩

theorem check_at {w : World} {S : Nat → Prop} {len cap : Nat} {A : Option Addr} {xs : List Check} (h : IsSl Kd.check w S A len cap xs) {i : Nat} (hi : i < len) :
    ∃ b off x Aexpr Lexpr Cexpr, A = some ⟨b, off, none⟩ ∧ Hid (xs[i]? = some x) ∧ S b ∧ b < w.heap.size ∧ w.cell? ⟨b, off + i, none⟩ = some (.slice Aexpr Lexpr Cexpr) ∧ IsSl Kd.tok w S Aexpr Lexpr Cexpr x.expr ∧ Kd.check.rd w S [.slice Aexpr Lexpr Cexpr] x := by
  obtain ⟨b, off, x, cs, hA, hb, hx, hc, hr⟩ := h.elem hi
  simp only [Kd.check] at hr
  obtain ⟨Aexpr, Lexpr, Cexpr, h0, h1⟩ := hr
  subst h0
  have c0 := hc 0 (by decide)
  exact ⟨b, off, x, Aexpr, Lexpr, Cexpr, hA, hx, hb, cells_lt c0, by simpa [Kd.check, Nat.add_assoc] using c0, h1, ⟨Aexpr, Lexpr, Cexpr, rfl, h1⟩⟩

theorem opens_check {P : Program} {t t0 : TypeId} {f0 : Field} (ht : P.underlying t = some (.struct #[f0])) (hc : P.cellsOf t = 1)
    (hf : f0.type = t0 ∧ f0.offset = 0) (k0 : Opens P t0 (Kd.tok).sl) : Opens P t Kd.check := by
  refine ⟨hc, fun H enc w spare held fuel cs x h => ?_⟩
  obtain ⟨xs, n, _, _, hl, hxl, hx⟩ := DataW.trod_struct ht h
  obtain ⟨e0, o0⟩ := hf
  rw [hc] at hl
  match cs, hl with
  | [c0], _ =>
  have hxl' : xs.length = 1 := hxl
  have h0 := hx 0 f0 rfl
  rw [List.getElem?_eq_getElem (by omega), e0, o0, k0.1] at h0
  obtain ⟨a0, r0⟩ := k0.2 _ _ _ _ _ _ _ _ h0
  obtain ⟨A0, L0, C0, q0, s0⟩ := r0
  simp [Kd.tok, Kd.sl] at q0
  exact ⟨⟨a0⟩, ⟨A0, L0, C0, by rw [q0], s0⟩⟩

structure Fk where
  cols : List Int
  table : ByteArray
  onDelete : Int
  onUpdate : Int
  deferred : Bool

def Kd.fk : Kd Fk where
  n := 5
  rd := fun w S cs a => ∃ (Acols : Option Addr) (Lcols Ccols : Nat), cs = [.slice Acols Lcols Ccols, .string a.table, .int .i64 a.onDelete, .int .i64 a.onUpdate, .bool a.deferred] ∧ a.table.size ≤ maxLen ∧ IsSl Kd.int w S Acols Lcols Ccols a.cols
  len := fun h => by
    obtain ⟨Acols, Lcols, Ccols, h0, h1, h2⟩ := h
    rw [h0]; rfl
  mono := fun h hS hw => by
    obtain ⟨Acols, Lcols, Ccols, h0, h1, h2⟩ := h
    exact ⟨Acols, Lcols, Ccols, h0, h1, h2.mono hS hw⟩

theorem fk_at {w : World} {S : Nat → Prop} {len cap : Nat} {A : Option Addr} {xs : List Fk} (h : IsSl Kd.fk w S A len cap xs) {i : Nat} (hi : i < len) :
    ∃ b off x Acols Lcols Ccols, A = some ⟨b, off, none⟩ ∧ Hid (xs[i]? = some x) ∧ S b ∧ b < w.heap.size ∧ x.table.size ≤ maxLen ∧ w.cell? ⟨b, off + i * 5, none⟩ = some (.slice Acols Lcols Ccols) ∧ w.cell? ⟨b, off + i * 5 + 1, none⟩ = some (.string x.table) ∧ w.cell? ⟨b, off + i * 5 + 2, none⟩ = some (.int .i64 x.onDelete) ∧ w.cell? ⟨b, off + i * 5 + 3, none⟩ = some (.int .i64 x.onUpdate) ∧ w.cell? ⟨b, off + i * 5 + 4, none⟩ = some (.bool x.deferred) ∧ IsSl Kd.int w S Acols Lcols Ccols x.cols ∧ Kd.fk.rd w S [.slice Acols Lcols Ccols, .string x.table, .int .i64 x.onDelete, .int .i64 x.onUpdate, .bool x.deferred] x := by
  obtain ⟨b, off, x, cs, hA, hb, hx, hc, hr⟩ := h.elem hi
  simp only [Kd.fk] at hr
  obtain ⟨Acols, Lcols, Ccols, h0, h1, h2⟩ := hr
  subst h0
  have c0 := hc 0 (by decide)
  have c1 := hc 1 (by decide)
  have c2 := hc 2 (by decide)
  have c3 := hc 3 (by decide)
  have c4 := hc 4 (by decide)
  exact ⟨b, off, x, Acols, Lcols, Ccols, hA, hx, hb, cells_lt c0, h1, by simpa [Kd.fk, Nat.add_assoc] using c0, by simpa [Kd.fk, Nat.add_assoc] using c1, by simpa [Kd.fk, Nat.add_assoc] using c2, by simpa [Kd.fk, Nat.add_assoc] using c3, by simpa [Kd.fk, Nat.add_assoc] using c4, h2, ⟨Acols, Lcols, Ccols, rfl, h1, h2⟩⟩

theorem opens_fk {P : Program} {t t0 t1 t2 t3 t4 : TypeId} {f0 f1 f2 f3 f4 : Field} (ht : P.underlying t = some (.struct #[f0, f1, f2, f3, f4])) (hc : P.cellsOf t = 5)
    (hf : f0.type = t0 ∧ f1.type = t1 ∧ f2.type = t2 ∧ f3.type = t3 ∧ f4.type = t4 ∧ f0.offset = 0 ∧ f1.offset = 1 ∧ f2.offset = 2 ∧ f3.offset = 3 ∧ f4.offset = 4) (k0 : Opens P t0 (Kd.int).sl) (k1 : Opens P t1 Kd.str) (k2 : Opens P t2 Kd.int) (k3 : Opens P t3 Kd.int) (k4 : Opens P t4 Kd.bool) : Opens P t Kd.fk := by
  refine ⟨hc, fun H enc w spare held fuel cs x h => ?_⟩
  obtain ⟨xs, n, _, _, hl, hxl, hx⟩ := DataW.trod_struct ht h
  obtain ⟨e0, e1, e2, e3, e4, o0, o1, o2, o3, o4⟩ := hf
  rw [hc] at hl
  match cs, hl with
  | [c0, c1, c2, c3, c4], _ =>
  have hxl' : xs.length = 5 := hxl
  have h0 := hx 0 f0 rfl
  rw [List.getElem?_eq_getElem (by omega), e0, o0, k0.1] at h0
  obtain ⟨a0, r0⟩ := k0.2 _ _ _ _ _ _ _ _ h0
  have h1 := hx 1 f1 rfl
  rw [List.getElem?_eq_getElem (by omega), e1, o1, k1.1] at h1
  obtain ⟨a1, r1⟩ := k1.2 _ _ _ _ _ _ _ _ h1
  have h2 := hx 2 f2 rfl
  rw [List.getElem?_eq_getElem (by omega), e2, o2, k2.1] at h2
  obtain ⟨a2, r2⟩ := k2.2 _ _ _ _ _ _ _ _ h2
  have h3 := hx 3 f3 rfl
  rw [List.getElem?_eq_getElem (by omega), e3, o3, k3.1] at h3
  obtain ⟨a3, r3⟩ := k3.2 _ _ _ _ _ _ _ _ h3
  have h4 := hx 4 f4 rfl
  rw [List.getElem?_eq_getElem (by omega), e4, o4, k4.1] at h4
  obtain ⟨a4, r4⟩ := k4.2 _ _ _ _ _ _ _ _ h4
  obtain ⟨A0, L0, C0, q0, s0⟩ := r0
  simp [Kd.int, Kd.sl] at q0
  obtain ⟨q1, z1⟩ := r1
  simp [Kd.str] at q1
  simp [Kd.int] at r2
  simp [Kd.int] at r3
  simp [Kd.bool] at r4
  exact ⟨⟨a0, a1, a2, a3, a4⟩, ⟨A0, L0, C0, by rw [q0, q1, r2, r3, r4], z1, s0⟩⟩

structure Table where
  name : ByteArray
  cols : List Col
  key : List Int
  uniques : List Unique
  checks : List Check
  fks : List Fk

def Kd.table : Kd Table where
  n := 6
  rd := fun w S cs a => ∃ (Acols : Option Addr) (Lcols Ccols : Nat), ∃ (Akey : Option Addr) (Lkey Ckey : Nat), ∃ (Auniques : Option Addr) (Luniques Cuniques : Nat), ∃ (Achecks : Option Addr) (Lchecks Cchecks : Nat), ∃ (Afks : Option Addr) (Lfks Cfks : Nat), cs = [.string a.name, .slice Acols Lcols Ccols, .slice Akey Lkey Ckey, .slice Auniques Luniques Cuniques, .slice Achecks Lchecks Cchecks, .slice Afks Lfks Cfks] ∧ a.name.size ≤ maxLen ∧ IsSl Kd.col w S Acols Lcols Ccols a.cols ∧ IsSl Kd.int w S Akey Lkey Ckey a.key ∧ IsSl Kd.unique w S Auniques Luniques Cuniques a.uniques ∧ IsSl Kd.check w S Achecks Lchecks Cchecks a.checks ∧ IsSl Kd.fk w S Afks Lfks Cfks a.fks
  len := fun h => by
    obtain ⟨Acols, Lcols, Ccols, Akey, Lkey, Ckey, Auniques, Luniques, Cuniques, Achecks, Lchecks, Cchecks, Afks, Lfks, Cfks, h0, h1, h2, h3, h4, h5, h6⟩ := h
    rw [h0]; rfl
  mono := fun h hS hw => by
    obtain ⟨Acols, Lcols, Ccols, Akey, Lkey, Ckey, Auniques, Luniques, Cuniques, Achecks, Lchecks, Cchecks, Afks, Lfks, Cfks, h0, h1, h2, h3, h4, h5, h6⟩ := h
    exact ⟨Acols, Lcols, Ccols, Akey, Lkey, Ckey, Auniques, Luniques, Cuniques, Achecks, Lchecks, Cchecks, Afks, Lfks, Cfks, h0, h1, h2.mono hS hw, h3.mono hS hw, h4.mono hS hw, h5.mono hS hw, h6.mono hS hw⟩

theorem table_at {w : World} {S : Nat → Prop} {len cap : Nat} {A : Option Addr} {xs : List Table} (h : IsSl Kd.table w S A len cap xs) {i : Nat} (hi : i < len) :
    ∃ b off x Acols Lcols Ccols Akey Lkey Ckey Auniques Luniques Cuniques Achecks Lchecks Cchecks Afks Lfks Cfks, A = some ⟨b, off, none⟩ ∧ Hid (xs[i]? = some x) ∧ S b ∧ b < w.heap.size ∧ x.name.size ≤ maxLen ∧ w.cell? ⟨b, off + i * 6, none⟩ = some (.string x.name) ∧ w.cell? ⟨b, off + i * 6 + 1, none⟩ = some (.slice Acols Lcols Ccols) ∧ w.cell? ⟨b, off + i * 6 + 2, none⟩ = some (.slice Akey Lkey Ckey) ∧ w.cell? ⟨b, off + i * 6 + 3, none⟩ = some (.slice Auniques Luniques Cuniques) ∧ w.cell? ⟨b, off + i * 6 + 4, none⟩ = some (.slice Achecks Lchecks Cchecks) ∧ w.cell? ⟨b, off + i * 6 + 5, none⟩ = some (.slice Afks Lfks Cfks) ∧ IsSl Kd.col w S Acols Lcols Ccols x.cols ∧ IsSl Kd.int w S Akey Lkey Ckey x.key ∧ IsSl Kd.unique w S Auniques Luniques Cuniques x.uniques ∧ IsSl Kd.check w S Achecks Lchecks Cchecks x.checks ∧ IsSl Kd.fk w S Afks Lfks Cfks x.fks ∧ Kd.table.rd w S [.string x.name, .slice Acols Lcols Ccols, .slice Akey Lkey Ckey, .slice Auniques Luniques Cuniques, .slice Achecks Lchecks Cchecks, .slice Afks Lfks Cfks] x := by
  obtain ⟨b, off, x, cs, hA, hb, hx, hc, hr⟩ := h.elem hi
  simp only [Kd.table] at hr
  obtain ⟨Acols, Lcols, Ccols, Akey, Lkey, Ckey, Auniques, Luniques, Cuniques, Achecks, Lchecks, Cchecks, Afks, Lfks, Cfks, h0, h1, h2, h3, h4, h5, h6⟩ := hr
  subst h0
  have c0 := hc 0 (by decide)
  have c1 := hc 1 (by decide)
  have c2 := hc 2 (by decide)
  have c3 := hc 3 (by decide)
  have c4 := hc 4 (by decide)
  have c5 := hc 5 (by decide)
  exact ⟨b, off, x, Acols, Lcols, Ccols, Akey, Lkey, Ckey, Auniques, Luniques, Cuniques, Achecks, Lchecks, Cchecks, Afks, Lfks, Cfks, hA, hx, hb, cells_lt c0, h1, by simpa [Kd.table, Nat.add_assoc] using c0, by simpa [Kd.table, Nat.add_assoc] using c1, by simpa [Kd.table, Nat.add_assoc] using c2, by simpa [Kd.table, Nat.add_assoc] using c3, by simpa [Kd.table, Nat.add_assoc] using c4, by simpa [Kd.table, Nat.add_assoc] using c5, h2, h3, h4, h5, h6, ⟨Acols, Lcols, Ccols, Akey, Lkey, Ckey, Auniques, Luniques, Cuniques, Achecks, Lchecks, Cchecks, Afks, Lfks, Cfks, rfl, h1, h2, h3, h4, h5, h6⟩⟩

theorem opens_table {P : Program} {t t0 t1 t2 t3 t4 t5 : TypeId} {f0 f1 f2 f3 f4 f5 : Field} (ht : P.underlying t = some (.struct #[f0, f1, f2, f3, f4, f5])) (hc : P.cellsOf t = 6)
    (hf : f0.type = t0 ∧ f1.type = t1 ∧ f2.type = t2 ∧ f3.type = t3 ∧ f4.type = t4 ∧ f5.type = t5 ∧ f0.offset = 0 ∧ f1.offset = 1 ∧ f2.offset = 2 ∧ f3.offset = 3 ∧ f4.offset = 4 ∧ f5.offset = 5) (k0 : Opens P t0 Kd.str) (k1 : Opens P t1 (Kd.col).sl) (k2 : Opens P t2 (Kd.int).sl) (k3 : Opens P t3 (Kd.unique).sl) (k4 : Opens P t4 (Kd.check).sl) (k5 : Opens P t5 (Kd.fk).sl) : Opens P t Kd.table := by
  refine ⟨hc, fun H enc w spare held fuel cs x h => ?_⟩
  obtain ⟨xs, n, _, _, hl, hxl, hx⟩ := DataW.trod_struct ht h
  obtain ⟨e0, e1, e2, e3, e4, e5, o0, o1, o2, o3, o4, o5⟩ := hf
  rw [hc] at hl
  match cs, hl with
  | [c0, c1, c2, c3, c4, c5], _ =>
  have hxl' : xs.length = 6 := hxl
  have h0 := hx 0 f0 rfl
  rw [List.getElem?_eq_getElem (by omega), e0, o0, k0.1] at h0
  obtain ⟨a0, r0⟩ := k0.2 _ _ _ _ _ _ _ _ h0
  have h1 := hx 1 f1 rfl
  rw [List.getElem?_eq_getElem (by omega), e1, o1, k1.1] at h1
  obtain ⟨a1, r1⟩ := k1.2 _ _ _ _ _ _ _ _ h1
  have h2 := hx 2 f2 rfl
  rw [List.getElem?_eq_getElem (by omega), e2, o2, k2.1] at h2
  obtain ⟨a2, r2⟩ := k2.2 _ _ _ _ _ _ _ _ h2
  have h3 := hx 3 f3 rfl
  rw [List.getElem?_eq_getElem (by omega), e3, o3, k3.1] at h3
  obtain ⟨a3, r3⟩ := k3.2 _ _ _ _ _ _ _ _ h3
  have h4 := hx 4 f4 rfl
  rw [List.getElem?_eq_getElem (by omega), e4, o4, k4.1] at h4
  obtain ⟨a4, r4⟩ := k4.2 _ _ _ _ _ _ _ _ h4
  have h5 := hx 5 f5 rfl
  rw [List.getElem?_eq_getElem (by omega), e5, o5, k5.1] at h5
  obtain ⟨a5, r5⟩ := k5.2 _ _ _ _ _ _ _ _ h5
  obtain ⟨q0, z0⟩ := r0
  simp [Kd.str] at q0
  obtain ⟨A1, L1, C1, q1, s1⟩ := r1
  simp [Kd.col, Kd.sl] at q1
  obtain ⟨A2, L2, C2, q2, s2⟩ := r2
  simp [Kd.int, Kd.sl] at q2
  obtain ⟨A3, L3, C3, q3, s3⟩ := r3
  simp [Kd.unique, Kd.sl] at q3
  obtain ⟨A4, L4, C4, q4, s4⟩ := r4
  simp [Kd.check, Kd.sl] at q4
  obtain ⟨A5, L5, C5, q5, s5⟩ := r5
  simp [Kd.fk, Kd.sl] at q5
  exact ⟨⟨a0, a1, a2, a3, a4, a5⟩, ⟨A1, L1, C1, A2, L2, C2, A3, L3, C3, A4, L4, C4, A5, L5, C5, by rw [q0, q1, q2, q3, q4, q5], z0, s1, s2, s3, s4, s5⟩⟩

structure Row where
  id : Int
  vals : List Val

def Kd.row : Kd Row where
  n := 2
  rd := fun w S cs a => ∃ (Avals : Option Addr) (Lvals Cvals : Nat), cs = [.int .i64 a.id, .slice Avals Lvals Cvals] ∧ IsSl Kd.val w S Avals Lvals Cvals a.vals
  len := fun h => by
    obtain ⟨Avals, Lvals, Cvals, h0, h1⟩ := h
    rw [h0]; rfl
  mono := fun h hS hw => by
    obtain ⟨Avals, Lvals, Cvals, h0, h1⟩ := h
    exact ⟨Avals, Lvals, Cvals, h0, h1.mono hS hw⟩

theorem row_at {w : World} {S : Nat → Prop} {len cap : Nat} {A : Option Addr} {xs : List Row} (h : IsSl Kd.row w S A len cap xs) {i : Nat} (hi : i < len) :
    ∃ b off x Avals Lvals Cvals, A = some ⟨b, off, none⟩ ∧ Hid (xs[i]? = some x) ∧ S b ∧ b < w.heap.size ∧ w.cell? ⟨b, off + i * 2, none⟩ = some (.int .i64 x.id) ∧ w.cell? ⟨b, off + i * 2 + 1, none⟩ = some (.slice Avals Lvals Cvals) ∧ IsSl Kd.val w S Avals Lvals Cvals x.vals ∧ Kd.row.rd w S [.int .i64 x.id, .slice Avals Lvals Cvals] x := by
  obtain ⟨b, off, x, cs, hA, hb, hx, hc, hr⟩ := h.elem hi
  simp only [Kd.row] at hr
  obtain ⟨Avals, Lvals, Cvals, h0, h1⟩ := hr
  subst h0
  have c0 := hc 0 (by decide)
  have c1 := hc 1 (by decide)
  exact ⟨b, off, x, Avals, Lvals, Cvals, hA, hx, hb, cells_lt c0, by simpa [Kd.row, Nat.add_assoc] using c0, by simpa [Kd.row, Nat.add_assoc] using c1, h1, ⟨Avals, Lvals, Cvals, rfl, h1⟩⟩

theorem opens_row {P : Program} {t t0 t1 : TypeId} {f0 f1 : Field} (ht : P.underlying t = some (.struct #[f0, f1])) (hc : P.cellsOf t = 2)
    (hf : f0.type = t0 ∧ f1.type = t1 ∧ f0.offset = 0 ∧ f1.offset = 1) (k0 : Opens P t0 Kd.int) (k1 : Opens P t1 (Kd.val).sl) : Opens P t Kd.row := by
  refine ⟨hc, fun H enc w spare held fuel cs x h => ?_⟩
  obtain ⟨xs, n, _, _, hl, hxl, hx⟩ := DataW.trod_struct ht h
  obtain ⟨e0, e1, o0, o1⟩ := hf
  rw [hc] at hl
  match cs, hl with
  | [c0, c1], _ =>
  have hxl' : xs.length = 2 := hxl
  have h0 := hx 0 f0 rfl
  rw [List.getElem?_eq_getElem (by omega), e0, o0, k0.1] at h0
  obtain ⟨a0, r0⟩ := k0.2 _ _ _ _ _ _ _ _ h0
  have h1 := hx 1 f1 rfl
  rw [List.getElem?_eq_getElem (by omega), e1, o1, k1.1] at h1
  obtain ⟨a1, r1⟩ := k1.2 _ _ _ _ _ _ _ _ h1
  simp [Kd.int] at r0
  obtain ⟨A1, L1, C1, q1, s1⟩ := r1
  simp [Kd.val, Kd.sl] at q1
  exact ⟨⟨a0, a1⟩, ⟨A1, L1, C1, by rw [r0, q1], s1⟩⟩

structure Data where
  rows : List Row

def Kd.data : Kd Data where
  n := 1
  rd := fun w S cs a => ∃ (Arows : Option Addr) (Lrows Crows : Nat), cs = [.slice Arows Lrows Crows] ∧ IsSl Kd.row w S Arows Lrows Crows a.rows
  len := fun h => by
    obtain ⟨Arows, Lrows, Crows, h0, h1⟩ := h
    rw [h0]; rfl
  mono := fun h hS hw => by
    obtain ⟨Arows, Lrows, Crows, h0, h1⟩ := h
    exact ⟨Arows, Lrows, Crows, h0, h1.mono hS hw⟩

theorem data_at {w : World} {S : Nat → Prop} {len cap : Nat} {A : Option Addr} {xs : List Data} (h : IsSl Kd.data w S A len cap xs) {i : Nat} (hi : i < len) :
    ∃ b off x Arows Lrows Crows, A = some ⟨b, off, none⟩ ∧ Hid (xs[i]? = some x) ∧ S b ∧ b < w.heap.size ∧ w.cell? ⟨b, off + i, none⟩ = some (.slice Arows Lrows Crows) ∧ IsSl Kd.row w S Arows Lrows Crows x.rows ∧ Kd.data.rd w S [.slice Arows Lrows Crows] x := by
  obtain ⟨b, off, x, cs, hA, hb, hx, hc, hr⟩ := h.elem hi
  simp only [Kd.data] at hr
  obtain ⟨Arows, Lrows, Crows, h0, h1⟩ := hr
  subst h0
  have c0 := hc 0 (by decide)
  exact ⟨b, off, x, Arows, Lrows, Crows, hA, hx, hb, cells_lt c0, by simpa [Kd.data, Nat.add_assoc] using c0, h1, ⟨Arows, Lrows, Crows, rfl, h1⟩⟩

theorem opens_data {P : Program} {t t0 : TypeId} {f0 : Field} (ht : P.underlying t = some (.struct #[f0])) (hc : P.cellsOf t = 1)
    (hf : f0.type = t0 ∧ f0.offset = 0) (k0 : Opens P t0 (Kd.row).sl) : Opens P t Kd.data := by
  refine ⟨hc, fun H enc w spare held fuel cs x h => ?_⟩
  obtain ⟨xs, n, _, _, hl, hxl, hx⟩ := DataW.trod_struct ht h
  obtain ⟨e0, o0⟩ := hf
  rw [hc] at hl
  match cs, hl with
  | [c0], _ =>
  have hxl' : xs.length = 1 := hxl
  have h0 := hx 0 f0 rfl
  rw [List.getElem?_eq_getElem (by omega), e0, o0, k0.1] at h0
  obtain ⟨a0, r0⟩ := k0.2 _ _ _ _ _ _ _ _ h0
  obtain ⟨A0, L0, C0, q0, s0⟩ := r0
  simp [Kd.row, Kd.sl] at q0
  exact ⟨⟨a0⟩, ⟨A0, L0, C0, by rw [q0], s0⟩⟩

structure Flaw where
  kind : Int
  table : Int
  id : Int

def Kd.flaw : Kd Flaw where
  n := 3
  rd := fun w S cs a => cs = [.int .i64 a.kind, .int .i64 a.table, .int .i64 a.id] ∧ True
  len := fun h => by
    obtain ⟨h0, h1⟩ := h
    rw [h0]; rfl
  mono := fun h hS hw => by
    obtain ⟨h0, h1⟩ := h
    exact ⟨h0, h1⟩

theorem flaw_at {w : World} {S : Nat → Prop} {len cap : Nat} {A : Option Addr} {xs : List Flaw} (h : IsSl Kd.flaw w S A len cap xs) {i : Nat} (hi : i < len) :
    ∃ b off x, A = some ⟨b, off, none⟩ ∧ Hid (xs[i]? = some x) ∧ S b ∧ b < w.heap.size ∧ w.cell? ⟨b, off + i * 3, none⟩ = some (.int .i64 x.kind) ∧ w.cell? ⟨b, off + i * 3 + 1, none⟩ = some (.int .i64 x.table) ∧ w.cell? ⟨b, off + i * 3 + 2, none⟩ = some (.int .i64 x.id) ∧ Kd.flaw.rd w S [.int .i64 x.kind, .int .i64 x.table, .int .i64 x.id] x := by
  obtain ⟨b, off, x, cs, hA, hb, hx, hc, hr⟩ := h.elem hi
  simp only [Kd.flaw] at hr
  obtain ⟨h0, h1⟩ := hr
  subst h0
  have c0 := hc 0 (by decide)
  have c1 := hc 1 (by decide)
  have c2 := hc 2 (by decide)
  exact ⟨b, off, x, hA, hx, hb, cells_lt c0, by simpa [Kd.flaw, Nat.add_assoc] using c0, by simpa [Kd.flaw, Nat.add_assoc] using c1, by simpa [Kd.flaw, Nat.add_assoc] using c2, ⟨rfl, h1⟩⟩

theorem opens_flaw {P : Program} {t t0 t1 t2 : TypeId} {f0 f1 f2 : Field} (ht : P.underlying t = some (.struct #[f0, f1, f2])) (hc : P.cellsOf t = 3)
    (hf : f0.type = t0 ∧ f1.type = t1 ∧ f2.type = t2 ∧ f0.offset = 0 ∧ f1.offset = 1 ∧ f2.offset = 2) (k0 : Opens P t0 Kd.int) (k1 : Opens P t1 Kd.int) (k2 : Opens P t2 Kd.int) : Opens P t Kd.flaw := by
  refine ⟨hc, fun H enc w spare held fuel cs x h => ?_⟩
  obtain ⟨xs, n, _, _, hl, hxl, hx⟩ := DataW.trod_struct ht h
  obtain ⟨e0, e1, e2, o0, o1, o2⟩ := hf
  rw [hc] at hl
  match cs, hl with
  | [c0, c1, c2], _ =>
  have hxl' : xs.length = 3 := hxl
  have h0 := hx 0 f0 rfl
  rw [List.getElem?_eq_getElem (by omega), e0, o0, k0.1] at h0
  obtain ⟨a0, r0⟩ := k0.2 _ _ _ _ _ _ _ _ h0
  have h1 := hx 1 f1 rfl
  rw [List.getElem?_eq_getElem (by omega), e1, o1, k1.1] at h1
  obtain ⟨a1, r1⟩ := k1.2 _ _ _ _ _ _ _ _ h1
  have h2 := hx 2 f2 rfl
  rw [List.getElem?_eq_getElem (by omega), e2, o2, k2.1] at h2
  obtain ⟨a2, r2⟩ := k2.2 _ _ _ _ _ _ _ _ h2
  simp [Kd.int] at r0
  simp [Kd.int] at r1
  simp [Kd.int] at r2
  exact ⟨⟨a0, a1, a2⟩, ⟨by rw [r0, r1, r2], trivial⟩⟩

theorem opens_int64 : Opens Tryz.prog 2 Kd.int := opens_int Tryz.underlying2 (by kernel_rfl)
theorem opens_string : Opens Tryz.prog 9 Kd.str := opens_str Tryz.underlying9 (by kernel_rfl)
theorem opens_boolT : Opens Tryz.prog 4 Kd.bool := opens_bool Tryz.underlying4 (by kernel_rfl)
theorem opens_ints : Opens Tryz.prog 29 Kd.int.sl := opens_sl Tryz.underlying29 (by kernel_rfl) opens_int64 (by decide)
end Go.Proofs.YtjeilgogjoidjaaGreat
