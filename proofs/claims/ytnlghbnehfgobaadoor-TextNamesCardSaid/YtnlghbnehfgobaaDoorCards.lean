/-
  DERIVED. GIVEN WITH THE SEED: THE CARDS: each row of YtnlghbnehfgobaaDoorRows.lean that lists a variable, with what it lists TIED to the program's text (the seventh form; the later family's looks); each row that meets fmt, with fmt's text TOLD by the authors' own Lean function (tested against real Go, not proved from fmt's source: count such statements apart). THE CARD IS WHAT COUNTS. Prove the row's statement (the work); the ties are given (YtnlghbnehfgobaaDoorTie.lean); close each card by the builder's one call (the guide's Derived/Test/ToyasCard.lean, 'card_holds'). Laid BY PROGRAM, IN A SANDBOX (cutbox-door.mjs). By AI agents, Wed Nov 11 2026. No macro, syntax, notation, axiom, sorry.
-/
import Derived.Test.YtnlghbnehfgobaaDoorRows
import GoSem.ClaimSeven
namespace Go.Proofs.YtnlghbnehfgobaaDoor
namespace Rows

/-- THE TIED CARD OF 'cotterellaw07.TextNames'. -/
def textNamesCard : Claim7 := { stood := { row := textNamesRow, standIns := [], harness := (true, "53eef0fb0ff9d3e537a0f99bb9da0062f56fd91b69385bed8ca23c3ea5d7fb0e"), looks := false }, kinds := [], alts := [], laidByText := true, laidKinds := [.data, .data, .listed, .data, .pinned], laidTests := true, laidLooks := .later }
def TextNamesCardSaid : Prop := Claim7.holds Tryd.pinned (.plain (OpenSpec.ofChange textNamesSpec)) textNamesCard

/-- THE TIED CARD OF 'cotterellaw07.TextPrints'. -/
def textPrintsCard : Claim7 := { stood := { row := textPrintsRow, standIns := [], harness := (true, "53eef0fb0ff9d3e537a0f99bb9da0062f56fd91b69385bed8ca23c3ea5d7fb0e"), looks := false }, kinds := [], alts := [], laidByText := true, laidKinds := [.data, .data, .listed, .data, .pinned], laidTests := true, laidLooks := .later }
def TextPrintsCardSaid : Prop := Claim7.holds Tryd.pinned (.plain (OpenSpec.ofChange textPrintsSpec)) textPrintsCard

/-- THE TIED CARD OF 'cotterellaw07.TextParses'. -/
def textParsesCard : Claim7 := { stood := { row := textParsesRow, standIns := [], harness := (true, "53eef0fb0ff9d3e537a0f99bb9da0062f56fd91b69385bed8ca23c3ea5d7fb0e"), looks := false }, kinds := [], alts := [], laidByText := true, laidKinds := [.data, .data, .listed, .data, .pinned], laidTests := true, laidLooks := .later }
def TextParsesCardSaid : Prop := Claim7.holds Tryd.pinned (.plain (OpenSpec.ofChange textParsesSpec)) textParsesCard

/-- THE TIED CARD OF 'cotterellaw07.TextOnce'. -/
def textOnceCard : Claim7 := { stood := { row := textOnceRow, standIns := [], harness := (true, "53eef0fb0ff9d3e537a0f99bb9da0062f56fd91b69385bed8ca23c3ea5d7fb0e"), looks := false }, kinds := [], alts := [], laidByText := true, laidKinds := [.data, .data, .listed, .data, .pinned], laidTests := true, laidLooks := .later }
def TextOnceCardSaid : Prop := Claim7.holds Tryd.pinned (.plain (OpenSpec.ofChange textOnceSpec)) textOnceCard

/-- THE TIED CARD OF 'cotterellaw07.TextCauses'. -/
def textCausesCard : Claim7 := { stood := { row := textCausesRow, standIns := [], harness := (true, "53eef0fb0ff9d3e537a0f99bb9da0062f56fd91b69385bed8ca23c3ea5d7fb0e"), looks := false }, kinds := [], alts := [], laidByText := true, laidKinds := [.data, .data, .listed, .data, .pinned], laidTests := true, laidLooks := .later }
def TextCausesCardSaid : Prop := Claim7.holds Tryd.pinned (.plain (OpenSpec.ofChange textCausesSpec)) textCausesCard

/-- THE SECOND FORM's CARD OF 'cotterellaw07.TextNames'. -/
def textNamesUptoCard : Claim7 := { stood := { row := textNamesUptoRow, standIns := [], harness := (true, "53eef0fb0ff9d3e537a0f99bb9da0062f56fd91b69385bed8ca23c3ea5d7fb0e"), looks := false }, kinds := [], alts := [], laidByText := true, laidKinds := [.data, .data, .listed, .data, .pinned], laidTests := true, laidLooks := .later }
def TextNamesUptoCardSaid : Prop := Claim7.holds Tryd.pinned (.plain (OpenSpec.upto textNamesSpec)) textNamesUptoCard

/-- THE SECOND FORM's CARD OF 'cotterellaw07.TextPrints'. -/
def textPrintsUptoCard : Claim7 := { stood := { row := textPrintsUptoRow, standIns := [], harness := (true, "53eef0fb0ff9d3e537a0f99bb9da0062f56fd91b69385bed8ca23c3ea5d7fb0e"), looks := false }, kinds := [], alts := [], laidByText := true, laidKinds := [.data, .data, .listed, .data, .pinned], laidTests := true, laidLooks := .later }
def TextPrintsUptoCardSaid : Prop := Claim7.holds Tryd.pinned (.plain (OpenSpec.upto textPrintsSpec)) textPrintsUptoCard

/-- THE SECOND FORM's CARD OF 'cotterellaw07.TextParses'. -/
def textParsesUptoCard : Claim7 := { stood := { row := textParsesUptoRow, standIns := [], harness := (true, "53eef0fb0ff9d3e537a0f99bb9da0062f56fd91b69385bed8ca23c3ea5d7fb0e"), looks := false }, kinds := [], alts := [], laidByText := true, laidKinds := [.data, .data, .listed, .data, .pinned], laidTests := true, laidLooks := .later }
def TextParsesUptoCardSaid : Prop := Claim7.holds Tryd.pinned (.plain (OpenSpec.upto textParsesSpec)) textParsesUptoCard

/-- THE SECOND FORM's CARD OF 'cotterellaw07.TextOnce'. -/
def textOnceUptoCard : Claim7 := { stood := { row := textOnceUptoRow, standIns := [], harness := (true, "53eef0fb0ff9d3e537a0f99bb9da0062f56fd91b69385bed8ca23c3ea5d7fb0e"), looks := false }, kinds := [], alts := [], laidByText := true, laidKinds := [.data, .data, .listed, .data, .pinned], laidTests := true, laidLooks := .later }
def TextOnceUptoCardSaid : Prop := Claim7.holds Tryd.pinned (.plain (OpenSpec.upto textOnceSpec)) textOnceUptoCard

/-- THE SECOND FORM's CARD OF 'cotterellaw07.TextCauses'. -/
def textCausesUptoCard : Claim7 := { stood := { row := textCausesUptoRow, standIns := [], harness := (true, "53eef0fb0ff9d3e537a0f99bb9da0062f56fd91b69385bed8ca23c3ea5d7fb0e"), looks := false }, kinds := [], alts := [], laidByText := true, laidKinds := [.data, .data, .listed, .data, .pinned], laidTests := true, laidLooks := .later }
def TextCausesUptoCardSaid : Prop := Claim7.holds Tryd.pinned (.plain (OpenSpec.upto textCausesSpec)) textCausesUptoCard
end Rows
end Go.Proofs.YtnlghbnehfgobaaDoor
