/-
  DERIVED. GIVEN WITH THE SEED: THE CARDS: each row of YtboichhelfahlaaDoorRows.lean that lists a variable, with what it lists TIED to the program's text (the seventh form; the later family's looks); each row that meets fmt, with fmt's text TOLD by the authors' own Lean function (tested against real Go, not proved from fmt's source: count such statements apart). THE CARD IS WHAT COUNTS. Prove the row's statement (the work); the ties are given (YtboichhelfahlaaDoorTie.lean); close each card by the builder's one call (the guide's Derived/Test/ToyasCard.lean, 'card_holds'). Laid BY PROGRAM, IN A SANDBOX (cutbox-door.mjs). By AI agents, Wed Nov 11 2026. No macro, syntax, notation, axiom, sorry.
-/
import Derived.Test.YtboichhelfahlaaDoorRows
import GoSem.ClaimSeven
namespace Go.Proofs.YtboichhelfahlaaDoor
namespace Rows

/-- THE TIED CARD OF 'laws.FnExactValText'. -/
def fnExactValTextCard : Claim7 := { stood := { row := fnExactValTextRow, standIns := [], harness := (true, "3bbfbfd120cd092552d73292a10f69a2b4e519372e288f726c675217d7feb708"), looks := true }, kinds := [], alts := [], laidByText := true, laidKinds := [.data, .data, .data], laidTests := true, laidLooks := .later }
def FnExactValTextCardSaid : Prop := Claim7.holds Tryd.pinned (.plain (OpenSpec.ofChange fnExactValTextSpec)) fnExactValTextCard

/-- THE TIED CARD OF 'laws.FnExactExprText'. -/
def fnExactExprTextCard : Claim7 := { stood := { row := fnExactExprTextRow, standIns := [], harness := (true, "3bbfbfd120cd092552d73292a10f69a2b4e519372e288f726c675217d7feb708"), looks := true }, kinds := [], alts := [], laidByText := true, laidKinds := [.data, .data, .data], laidTests := true, laidLooks := .later }
def FnExactExprTextCardSaid : Prop := Claim7.holds Tryd.pinned (.plain (OpenSpec.ofChange fnExactExprTextSpec)) fnExactExprTextCard

/-- THE TIED CARD OF 'laws.FnExactReadVal'. -/
def fnExactReadValCard : Claim7 := { stood := { row := fnExactReadValRow, standIns := [], harness := (true, "3bbfbfd120cd092552d73292a10f69a2b4e519372e288f726c675217d7feb708"), looks := true }, kinds := [], alts := [], laidByText := true, laidKinds := [.data, .data, .data, .sentinel, .sentinel], laidTests := true, laidLooks := .later }
def FnExactReadValCardSaid : Prop := Claim7.holds Tryd.pinned (.plain (OpenSpec.ofChange fnExactReadValSpec)) fnExactReadValCard

/-- THE TIED CARD OF 'laws.FnValTexts'. -/
def fnValTextsCard : Claim7 := { stood := { row := fnValTextsRow, standIns := [], harness := (true, "3bbfbfd120cd092552d73292a10f69a2b4e519372e288f726c675217d7feb708"), looks := true }, kinds := [], alts := [], laidByText := true, laidKinds := [.data, .data, .data, .sentinel, .sentinel], laidTests := true, laidLooks := .later }
def FnValTextsCardSaid : Prop := Claim7.holds Tryd.pinned (.plain (OpenSpec.ofChange fnValTextsSpec)) fnValTextsCard

/-- THE SECOND FORM's CARD OF 'laws.FnExactValText'. -/
def fnExactValTextUptoCard : Claim7 := { stood := { row := fnExactValTextUptoRow, standIns := [], harness := (true, "3bbfbfd120cd092552d73292a10f69a2b4e519372e288f726c675217d7feb708"), looks := true }, kinds := [], alts := [], laidByText := true, laidKinds := [.data, .data, .data], laidTests := true, laidLooks := .later }
def FnExactValTextUptoCardSaid : Prop := Claim7.holds Tryd.pinned (.plain (OpenSpec.upto fnExactValTextSpec)) fnExactValTextUptoCard

/-- THE SECOND FORM's CARD OF 'laws.FnExactExprText'. -/
def fnExactExprTextUptoCard : Claim7 := { stood := { row := fnExactExprTextUptoRow, standIns := [], harness := (true, "3bbfbfd120cd092552d73292a10f69a2b4e519372e288f726c675217d7feb708"), looks := true }, kinds := [], alts := [], laidByText := true, laidKinds := [.data, .data, .data], laidTests := true, laidLooks := .later }
def FnExactExprTextUptoCardSaid : Prop := Claim7.holds Tryd.pinned (.plain (OpenSpec.upto fnExactExprTextSpec)) fnExactExprTextUptoCard

/-- THE SECOND FORM's CARD OF 'laws.FnExactReadVal'. -/
def fnExactReadValUptoCard : Claim7 := { stood := { row := fnExactReadValUptoRow, standIns := [], harness := (true, "3bbfbfd120cd092552d73292a10f69a2b4e519372e288f726c675217d7feb708"), looks := true }, kinds := [], alts := [], laidByText := true, laidKinds := [.data, .data, .data, .sentinel, .sentinel], laidTests := true, laidLooks := .later }
def FnExactReadValUptoCardSaid : Prop := Claim7.holds Tryd.pinned (.plain (OpenSpec.upto fnExactReadValSpec)) fnExactReadValUptoCard

/-- THE SECOND FORM's CARD OF 'laws.FnValTexts'. -/
def fnValTextsUptoCard : Claim7 := { stood := { row := fnValTextsUptoRow, standIns := [], harness := (true, "3bbfbfd120cd092552d73292a10f69a2b4e519372e288f726c675217d7feb708"), looks := true }, kinds := [], alts := [], laidByText := true, laidKinds := [.data, .data, .data, .sentinel, .sentinel], laidTests := true, laidLooks := .later }
def FnValTextsUptoCardSaid : Prop := Claim7.holds Tryd.pinned (.plain (OpenSpec.upto fnValTextsSpec)) fnValTextsUptoCard
end Rows
end Go.Proofs.YtboichhelfahlaaDoor
