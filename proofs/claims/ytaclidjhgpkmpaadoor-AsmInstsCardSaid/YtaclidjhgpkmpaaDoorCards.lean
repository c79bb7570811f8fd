/-
  DERIVED. GIVEN WITH THE SEED: THE CARDS: each row of YtaclidjhgpkmpaaDoorRows.lean that lists a variable, with what it lists TIED to the program's text (the seventh form; the later family's looks); each row that meets fmt, with fmt's text TOLD by the authors' own Lean function (tested against real Go, not proved from fmt's source: count such statements apart). THE CARD IS WHAT COUNTS. Prove the row's statement (the work); the ties are given (YtaclidjhgpkmpaaDoorTie.lean); close each card by the builder's one call (the guide's Derived/Test/ToyasCard.lean, 'card_holds'). Laid BY PROGRAM, IN A SANDBOX (cutbox-door.mjs). By AI agents, Wed Nov 11 2026. No macro, syntax, notation, axiom, sorry.
-/
import Derived.Test.YtaclidjhgpkmpaaDoorRows
import GoSem.ClaimSeven
namespace Go.Proofs.YtaclidjhgpkmpaaDoor
namespace Rows

/-- THE TIED CARD OF 'cotterellaw08.AsmInsts'. -/
def asmInstsCard : Claim7 := { stood := { row := asmInstsRow, standIns := [], harness := (true, "c80b4d8879ee96991ee18a29920e093ee7a5f8a4ffd548ecceb1221a4f0c2efc"), looks := false }, kinds := [], alts := [], laidByText := true, laidKinds := [.data, .data, .listed, .data, .pinned], laidTests := true, laidLooks := .later }
def AsmInstsCardSaid : Prop := Claim7.holds Tryd.pinned (.plain (OpenSpec.ofChange asmInstsSpec)) asmInstsCard

/-- THE TIED CARD OF 'cotterellaw08.AsmBytes'. -/
def asmBytesCard : Claim7 := { stood := { row := asmBytesRow, standIns := [], harness := (true, "c80b4d8879ee96991ee18a29920e093ee7a5f8a4ffd548ecceb1221a4f0c2efc"), looks := false }, kinds := [], alts := [], laidByText := true, laidKinds := [.data, .data, .listed, .data, .pinned], laidTests := true, laidLooks := .later }
def AsmBytesCardSaid : Prop := Claim7.holds Tryd.pinned (.plain (OpenSpec.ofChange asmBytesSpec)) asmBytesCard

/-- THE TIED CARD OF 'cotterellaw08.AsmJumps'. -/
def asmJumpsCard : Claim7 := { stood := { row := asmJumpsRow, standIns := [], harness := (true, "c80b4d8879ee96991ee18a29920e093ee7a5f8a4ffd548ecceb1221a4f0c2efc"), looks := false }, kinds := [], alts := [], laidByText := true, laidKinds := [.data, .data, .listed, .data, .pinned], laidTests := true, laidLooks := .later }
def AsmJumpsCardSaid : Prop := Claim7.holds Tryd.pinned (.plain (OpenSpec.ofChange asmJumpsSpec)) asmJumpsCard

/-- THE SECOND FORM's CARD OF 'cotterellaw08.AsmInsts'. -/
def asmInstsUptoCard : Claim7 := { stood := { row := asmInstsUptoRow, standIns := [], harness := (true, "c80b4d8879ee96991ee18a29920e093ee7a5f8a4ffd548ecceb1221a4f0c2efc"), looks := false }, kinds := [], alts := [], laidByText := true, laidKinds := [.data, .data, .listed, .data, .pinned], laidTests := true, laidLooks := .later }
def AsmInstsUptoCardSaid : Prop := Claim7.holds Tryd.pinned (.plain (OpenSpec.upto asmInstsSpec)) asmInstsUptoCard

/-- THE SECOND FORM's CARD OF 'cotterellaw08.AsmBytes'. -/
def asmBytesUptoCard : Claim7 := { stood := { row := asmBytesUptoRow, standIns := [], harness := (true, "c80b4d8879ee96991ee18a29920e093ee7a5f8a4ffd548ecceb1221a4f0c2efc"), looks := false }, kinds := [], alts := [], laidByText := true, laidKinds := [.data, .data, .listed, .data, .pinned], laidTests := true, laidLooks := .later }
def AsmBytesUptoCardSaid : Prop := Claim7.holds Tryd.pinned (.plain (OpenSpec.upto asmBytesSpec)) asmBytesUptoCard

/-- THE SECOND FORM's CARD OF 'cotterellaw08.AsmJumps'. -/
def asmJumpsUptoCard : Claim7 := { stood := { row := asmJumpsUptoRow, standIns := [], harness := (true, "c80b4d8879ee96991ee18a29920e093ee7a5f8a4ffd548ecceb1221a4f0c2efc"), looks := false }, kinds := [], alts := [], laidByText := true, laidKinds := [.data, .data, .listed, .data, .pinned], laidTests := true, laidLooks := .later }
def AsmJumpsUptoCardSaid : Prop := Claim7.holds Tryd.pinned (.plain (OpenSpec.upto asmJumpsSpec)) asmJumpsUptoCard
end Rows
end Go.Proofs.YtaclidjhgpkmpaaDoor
