/-
  DERIVED. GIVEN WITH THE SEED: THE CARDS: each row of YtamlfjkkpgmjiaaDoorRows.lean that lists a variable, with what it lists TIED to the program's text (the seventh form; the later family's looks); each row that meets fmt, with fmt's text TOLD by the authors' own Lean function (tested against real Go, not proved from fmt's source: count such statements apart). THE CARD IS WHAT COUNTS. Prove the row's statement (the work); the ties are given (YtamlfjkkpgmjiaaDoorTie.lean); close each card by the builder's one call (the guide's Derived/Test/ToyasCard.lean, 'card_holds'). Laid BY PROGRAM, IN A SANDBOX (cutbox-door.mjs). By AI agents, Wed Nov 11 2026. No macro, syntax, notation, axiom, sorry.
-/
import Derived.Test.YtamlfjkkpgmjiaaDoorRows
import GoSem.ClaimSeven
namespace Go.Proofs.YtamlfjkkpgmjiaaDoor
namespace Rows

/-- THE TIED CARD OF 'laws.FnExactFormatCommand'. -/
def fnExactFormatCommandCard : Claim7 := { stood := { row := fnExactFormatCommandRow, standIns := [], harness := (true, "33e8b9f51b0351cb467d5c1331263ea5d0eeb5bb6573ebba52d6f2a2b1c6dd81"), looks := false }, kinds := [], alts := [], laidByText := true, laidKinds := [.data, .data, .data], laidTests := true, laidLooks := .later }
def FnExactFormatCommandCardSaid : Prop := Claim7.holds Tryd.pinned (.plain (OpenSpec.ofChange fnExactFormatCommandSpec)) fnExactFormatCommandCard

/-- THE TIED CARD OF 'laws.FnExactParseCommand'. -/
def fnExactParseCommandCard : Claim7 := { stood := { row := fnExactParseCommandRow, standIns := [], harness := (true, "33e8b9f51b0351cb467d5c1331263ea5d0eeb5bb6573ebba52d6f2a2b1c6dd81"), looks := false }, kinds := [], alts := [], laidByText := true, laidKinds := [.data, .data, .data, .data, .pinned], laidTests := true, laidLooks := .later }
def FnExactParseCommandCardSaid : Prop := Claim7.holds Tryd.pinned (.plain (OpenSpec.ofChange fnExactParseCommandSpec)) fnExactParseCommandCard

/-- THE TIED CARD OF 'laws.FnCommands'. -/
def fnCommandsCard : Claim7 := { stood := { row := fnCommandsRow, standIns := [], harness := (true, "33e8b9f51b0351cb467d5c1331263ea5d0eeb5bb6573ebba52d6f2a2b1c6dd81"), looks := false }, kinds := [], alts := [], laidByText := true, laidKinds := [.data, .data, .data, .data, .pinned], laidTests := true, laidLooks := .later }
def FnCommandsCardSaid : Prop := Claim7.holds Tryd.pinned (.plain (OpenSpec.ofChange fnCommandsSpec)) fnCommandsCard

/-- THE SECOND FORM's CARD OF 'laws.FnExactFormatCommand'. -/
def fnExactFormatCommandUptoCard : Claim7 := { stood := { row := fnExactFormatCommandUptoRow, standIns := [], harness := (true, "33e8b9f51b0351cb467d5c1331263ea5d0eeb5bb6573ebba52d6f2a2b1c6dd81"), looks := false }, kinds := [], alts := [], laidByText := true, laidKinds := [.data, .data, .data], laidTests := true, laidLooks := .later }
def FnExactFormatCommandUptoCardSaid : Prop := Claim7.holds Tryd.pinned (.plain (OpenSpec.upto fnExactFormatCommandSpec)) fnExactFormatCommandUptoCard

/-- THE SECOND FORM's CARD OF 'laws.FnExactParseCommand'. -/
def fnExactParseCommandUptoCard : Claim7 := { stood := { row := fnExactParseCommandUptoRow, standIns := [], harness := (true, "33e8b9f51b0351cb467d5c1331263ea5d0eeb5bb6573ebba52d6f2a2b1c6dd81"), looks := false }, kinds := [], alts := [], laidByText := true, laidKinds := [.data, .data, .data, .data, .pinned], laidTests := true, laidLooks := .later }
def FnExactParseCommandUptoCardSaid : Prop := Claim7.holds Tryd.pinned (.plain (OpenSpec.upto fnExactParseCommandSpec)) fnExactParseCommandUptoCard

/-- THE SECOND FORM's CARD OF 'laws.FnCommands'. -/
def fnCommandsUptoCard : Claim7 := { stood := { row := fnCommandsUptoRow, standIns := [], harness := (true, "33e8b9f51b0351cb467d5c1331263ea5d0eeb5bb6573ebba52d6f2a2b1c6dd81"), looks := false }, kinds := [], alts := [], laidByText := true, laidKinds := [.data, .data, .data, .data, .pinned], laidTests := true, laidLooks := .later }
def FnCommandsUptoCardSaid : Prop := Claim7.holds Tryd.pinned (.plain (OpenSpec.upto fnCommandsSpec)) fnCommandsUptoCard
end Rows
end Go.Proofs.YtamlfjkkpgmjiaaDoor
