/-
  DERIVED. GIVEN WITH THE SEED: THE CARDS: each row of YtdgmoplfiodahaaGreatDoorRows.lean that lists a variable, with what it lists TIED to the program's text (the seventh form; the later family's looks); each row that meets fmt, with fmt's text TOLD by the authors' own Lean function (tested against real Go, not proved from fmt's source: count such statements apart). THE CARD IS WHAT COUNTS. Prove the row's statement (the work); the ties are given (YtdgmoplfiodahaaGreatDoorTie.lean); close each card by the builder's one call (the guide's Derived/Test/ToyasCard.lean, 'card_holds'). Laid BY PROGRAM, IN A SANDBOX (cutbox-door.mjs). By AI agents, Wed Nov 11 2026. No macro, syntax, notation, axiom, sorry.
-/
import Derived.Test.YtdgmoplfiodahaaGreatDoorRows
import GoSem.ClaimSeven
namespace Go.Proofs.YtdgmoplfiodahaaGreatDoor
namespace Rows

/-- THE TIED CARD OF 'laws.FnExactReadExpr'. -/
def fnExactReadExprCard : Claim7 := { stood := { row := fnExactReadExprRow, standIns := [], harness := (true, "ec557b4cd648830214a9a0f26e34586f12e2ee91fcdda5e7e93221fcc37860ae"), looks := true }, kinds := [], alts := [], laidByText := true, laidKinds := [.data, .data, .data, .data, .sentinel, .sentinel, .pinned], laidTests := true, laidLooks := .later }
def FnExactReadExprCardSaid : Prop := Claim7.holds Tryz.pinned (.plain (OpenSpec.ofChange fnExactReadExprSpec)) fnExactReadExprCard

/-- THE TIED CARD OF 'laws.FnExprTexts'. -/
def fnExprTextsCard : Claim7 := { stood := { row := fnExprTextsRow, standIns := [], harness := (true, "ec557b4cd648830214a9a0f26e34586f12e2ee91fcdda5e7e93221fcc37860ae"), looks := true }, kinds := [], alts := [], laidByText := true, laidKinds := [.data, .data, .data, .data, .sentinel, .sentinel, .pinned], laidTests := true, laidLooks := .later }
def FnExprTextsCardSaid : Prop := Claim7.holds Tryz.pinned (.plain (OpenSpec.ofChange fnExprTextsSpec)) fnExprTextsCard

/-- THE SECOND FORM's CARD OF 'laws.FnExactReadExpr'. -/
def fnExactReadExprUptoCard : Claim7 := { stood := { row := fnExactReadExprUptoRow, standIns := [], harness := (true, "ec557b4cd648830214a9a0f26e34586f12e2ee91fcdda5e7e93221fcc37860ae"), looks := true }, kinds := [], alts := [], laidByText := true, laidKinds := [.data, .data, .data, .data, .sentinel, .sentinel, .pinned], laidTests := true, laidLooks := .later }
def FnExactReadExprUptoCardSaid : Prop := Claim7.holds Tryz.pinned (.plain (OpenSpec.upto fnExactReadExprSpec)) fnExactReadExprUptoCard

/-- THE SECOND FORM's CARD OF 'laws.FnExprTexts'. -/
def fnExprTextsUptoCard : Claim7 := { stood := { row := fnExprTextsUptoRow, standIns := [], harness := (true, "ec557b4cd648830214a9a0f26e34586f12e2ee91fcdda5e7e93221fcc37860ae"), looks := true }, kinds := [], alts := [], laidByText := true, laidKinds := [.data, .data, .data, .data, .sentinel, .sentinel, .pinned], laidTests := true, laidLooks := .later }
def FnExprTextsUptoCardSaid : Prop := Claim7.holds Tryz.pinned (.plain (OpenSpec.upto fnExprTextsSpec)) fnExprTextsUptoCard
end Rows
end Go.Proofs.YtdgmoplfiodahaaGreatDoor
