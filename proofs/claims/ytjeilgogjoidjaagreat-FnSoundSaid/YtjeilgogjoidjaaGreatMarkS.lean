import Derived.Test.YtjeilgogjoidjaaGreatSim
/-! Marks over slices of structs. -/
namespace Go.Proofs.YtjeilgogjoidjaaGreat
open Go.RowKit
set_option linter.unusedVariables false
set_option linter.unusedSimpArgs false
theorem sims_tok : Sims Kd.tok cTok := fun w w' S S' cs cs' a hr hs hl hS => by
  obtain ⟨rfl, zv⟩ := hr
  obtain ⟨v0, _, rfl, q0, hl⟩ := hl.cons
  obtain ⟨v1, _, rfl, q1, hl⟩ := hl.cons
  obtain ⟨v2, _, rfl, q2, hl⟩ := hl.cons
  obtain ⟨v3, _, rfl, q3, hl⟩ := hl.cons
  obtain ⟨v4, _, rfl, q4, hl⟩ := hl.cons
  obtain rfl := hl.nil
  obtain ⟨m0, rfl⟩ := q0.int
  obtain ⟨m1, rfl⟩ := q1.int
  obtain ⟨m2, rfl⟩ := q2.int
  obtain ⟨m3, rfl⟩ := q3.int
  obtain ⟨m4, rfl, y4⟩ := q4.str zv
  exact ⟨⟨m0, m1, ⟨m2, m3, m4⟩⟩, ⟨rfl, y4⟩, rfl⟩
theorem sims_col : Sims Kd.col cCol := fun w w' S S' cs cs' a hr hs hl hS => by
  obtain ⟨rfl, zname, zdflt⟩ := hr
  obtain ⟨v0, _, rfl, q0, hl⟩ := hl.cons
  obtain ⟨v1, _, rfl, q1, hl⟩ := hl.cons
  obtain ⟨v2, _, rfl, q2, hl⟩ := hl.cons
  obtain ⟨v3, _, rfl, q3, hl⟩ := hl.cons
  obtain ⟨v4, _, rfl, q4, hl⟩ := hl.cons
  obtain ⟨v5, _, rfl, q5, hl⟩ := hl.cons
  obtain rfl := hl.nil
  obtain ⟨m0, rfl, y0⟩ := q0.str zname
  obtain ⟨m1, rfl⟩ := q1.int
  obtain ⟨m2, rfl⟩ := q2.bool
  obtain ⟨m3, rfl⟩ := q3.int
  obtain ⟨m4, rfl⟩ := q4.int
  obtain ⟨m5, rfl, y5⟩ := q5.str zdflt
  exact ⟨⟨m0, m1, m2, ⟨m3, m4, m5⟩⟩, ⟨rfl, y0, y5⟩, rfl⟩
theorem sims_unique : Sims Kd.unique cUnique := fun w w' S S' cs cs' a hr hs hl hS => by
  obtain ⟨Acols, Lcols, Ccols, rfl, scols⟩ := hr
  obtain ⟨v0, _, rfl, q0, hl⟩ := hl.cons
  obtain rfl := hl.nil
  obtain rfl := q0.slice
  obtain ⟨lcols, tcols, ecols⟩ := scols.sim sims_int hs hS
  exact ⟨⟨lcols⟩, ⟨Acols, Lcols, Ccols, rfl, tcols⟩, by simp only [cUnique, cntL_map ecols]⟩
theorem sims_check : Sims Kd.check cCheck := fun w w' S S' cs cs' a hr hs hl hS => by
  obtain ⟨Aexpr, Lexpr, Cexpr, rfl, sexpr⟩ := hr
  obtain ⟨v0, _, rfl, q0, hl⟩ := hl.cons
  obtain rfl := hl.nil
  obtain rfl := q0.slice
  obtain ⟨lexpr, texpr, eexpr⟩ := sexpr.sim sims_tok hs hS
  exact ⟨⟨lexpr⟩, ⟨Aexpr, Lexpr, Cexpr, rfl, texpr⟩, by simp only [cCheck, cntL_map eexpr]⟩
theorem sims_fk : Sims Kd.fk cFk := fun w w' S S' cs cs' a hr hs hl hS => by
  obtain ⟨Acols, Lcols, Ccols, rfl, ztable, scols⟩ := hr
  obtain ⟨v0, _, rfl, q0, hl⟩ := hl.cons
  obtain ⟨v1, _, rfl, q1, hl⟩ := hl.cons
  obtain ⟨v2, _, rfl, q2, hl⟩ := hl.cons
  obtain ⟨v3, _, rfl, q3, hl⟩ := hl.cons
  obtain ⟨v4, _, rfl, q4, hl⟩ := hl.cons
  obtain rfl := hl.nil
  obtain rfl := q0.slice
  obtain ⟨lcols, tcols, ecols⟩ := scols.sim sims_int hs hS
  obtain ⟨m1, rfl, y1⟩ := q1.str ztable
  obtain ⟨m2, rfl⟩ := q2.int
  obtain ⟨m3, rfl⟩ := q3.int
  obtain ⟨m4, rfl⟩ := q4.bool
  exact ⟨⟨lcols, m1, m2, m3, m4⟩, ⟨Acols, Lcols, Ccols, rfl, y1, tcols⟩, by simp only [cFk, cntL_map ecols]⟩
theorem sims_table : Sims Kd.table cTable := fun w w' S S' cs cs' a hr hs hl hS => by
  obtain ⟨Acols, Lcols, Ccols, Akey, Lkey, Ckey, Auniques, Luniques, Cuniques, Achecks, Lchecks, Cchecks, Afks, Lfks, Cfks, rfl, zname, scols, skey, suniques, schecks, sfks⟩ := hr
  obtain ⟨v0, _, rfl, q0, hl⟩ := hl.cons
  obtain ⟨v1, _, rfl, q1, hl⟩ := hl.cons
  obtain ⟨v2, _, rfl, q2, hl⟩ := hl.cons
  obtain ⟨v3, _, rfl, q3, hl⟩ := hl.cons
  obtain ⟨v4, _, rfl, q4, hl⟩ := hl.cons
  obtain ⟨v5, _, rfl, q5, hl⟩ := hl.cons
  obtain rfl := hl.nil
  obtain ⟨m0, rfl, y0⟩ := q0.str zname
  obtain rfl := q1.slice
  obtain ⟨lcols, tcols, ecols⟩ := scols.sim sims_col hs hS
  obtain rfl := q2.slice
  obtain ⟨lkey, tkey, ekey⟩ := skey.sim sims_int hs hS
  obtain rfl := q3.slice
  obtain ⟨luniques, tuniques, euniques⟩ := suniques.sim sims_unique hs hS
  obtain rfl := q4.slice
  obtain ⟨lchecks, tchecks, echecks⟩ := schecks.sim sims_check hs hS
  obtain rfl := q5.slice
  obtain ⟨lfks, tfks, efks⟩ := sfks.sim sims_fk hs hS
  exact ⟨⟨m0, lcols, lkey, luniques, lchecks, lfks⟩, ⟨Acols, Lcols, Ccols, Akey, Lkey, Ckey, Auniques, Luniques, Cuniques, Achecks, Lchecks, Cchecks, Afks, Lfks, Cfks, rfl, y0, tcols, tkey, tuniques, tchecks, tfks⟩, by simp only [cTable, cntL_map ecols, cntL_map ekey, cntL_map euniques, cntL_map echecks, cntL_map efks]⟩
theorem sims_row : Sims Kd.row cRow := fun w w' S S' cs cs' a hr hs hl hS => by
  obtain ⟨Avals, Lvals, Cvals, rfl, svals⟩ := hr
  obtain ⟨v0, _, rfl, q0, hl⟩ := hl.cons
  obtain ⟨v1, _, rfl, q1, hl⟩ := hl.cons
  obtain rfl := hl.nil
  obtain ⟨m0, rfl⟩ := q0.int
  obtain rfl := q1.slice
  obtain ⟨lvals, tvals, evals⟩ := svals.sim sims_val hs hS
  exact ⟨⟨m0, lvals⟩, ⟨Avals, Lvals, Cvals, rfl, tvals⟩, by simp only [cRow, cntL_map evals]⟩
theorem sims_data : Sims Kd.data cData := fun w w' S S' cs cs' a hr hs hl hS => by
  obtain ⟨Arows, Lrows, Crows, rfl, srows⟩ := hr
  obtain ⟨v0, _, rfl, q0, hl⟩ := hl.cons
  obtain rfl := hl.nil
  obtain rfl := q0.slice
  obtain ⟨lrows, trows, erows⟩ := srows.sim sims_row hs hS
  exact ⟨⟨lrows⟩, ⟨Arows, Lrows, Crows, rfl, trows⟩, by simp only [cData, cntL_map erows]⟩
end Go.Proofs.YtjeilgogjoidjaaGreat
