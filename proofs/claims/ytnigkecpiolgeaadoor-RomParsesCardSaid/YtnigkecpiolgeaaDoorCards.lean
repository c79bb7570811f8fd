/-
  DERIVED. GIVEN WITH THE SEED: THE CARDS: each row of YtnigkecpiolgeaaDoorRows.lean that lists a variable, with what it lists TIED to the program's text (the seventh form; the later family's looks); each row that meets fmt, with fmt's text TOLD by the authors' own Lean function (tested against real Go, not proved from fmt's source: count such statements apart). THE CARD IS WHAT COUNTS. Prove the row's statement (the work); the ties are given (YtnigkecpiolgeaaDoorTie.lean); close each card by the builder's one call (the guide's Derived/Test/ToyasCard.lean, 'card_holds'). Laid BY PROGRAM, IN A SANDBOX (cutbox-door.mjs). By AI agents, Wed Nov 11 2026. No macro, syntax, notation, axiom, sorry.
-/
import Derived.Test.YtnigkecpiolgeaaDoorRows
import GoSem.ClaimSeven
namespace Go.Proofs.YtnigkecpiolgeaaDoor
namespace Rows

/-- THE TIED CARD OF 'cotterellaw09.RomTexts'. -/
def romTextsCard : Claim7 := { stood := { row := romTextsRow, standIns := [], harness := (true, "ef81543063f4ba5f1c774ca9fdd4416c8adb239c719eeecd79f77349a7be26b1"), looks := false }, kinds := [], alts := [], laidByText := true, laidKinds := [.data, .pinned], laidTests := true, laidLooks := .later }
def RomTextsCardSaid : Prop := Claim7.holds Tryd.pinned (.plain (OpenSpec.ofChange romTextsSpec)) romTextsCard

/-- THE TIED CARD OF 'cotterellaw09.RomParses'. -/
def romParsesCard : Claim7 := { stood := { row := romParsesRow, standIns := [], harness := (true, "ef81543063f4ba5f1c774ca9fdd4416c8adb239c719eeecd79f77349a7be26b1"), looks := false }, kinds := [], alts := [], laidByText := true, laidKinds := [.data, .pinned], laidTests := true, laidLooks := .later }
def RomParsesCardSaid : Prop := Claim7.holds Tryd.pinned (.plain (OpenSpec.ofChange romParsesSpec)) romParsesCard

/-- THE TIED CARD OF 'cotterellaw09.RomBack'. -/
def romBackCard : Claim7 := { stood := { row := romBackRow, standIns := [], harness := (true, "ef81543063f4ba5f1c774ca9fdd4416c8adb239c719eeecd79f77349a7be26b1"), looks := false }, kinds := [], alts := [], laidByText := true, laidKinds := [.data, .pinned], laidTests := true, laidLooks := .later }
def RomBackCardSaid : Prop := Claim7.holds Tryd.pinned (.plain (OpenSpec.ofChange romBackSpec)) romBackCard

/-- THE TIED CARD OF 'cotterellaw09.RomFinds'. -/
def romFindsCard : Claim7 := { stood := { row := romFindsRow, standIns := [], harness := (true, "ef81543063f4ba5f1c774ca9fdd4416c8adb239c719eeecd79f77349a7be26b1"), looks := false }, kinds := [], alts := [], laidByText := true, laidKinds := [.data, .pinned], laidTests := true, laidLooks := .later }
def RomFindsCardSaid : Prop := Claim7.holds Tryd.pinned (.plain (OpenSpec.ofChange romFindsSpec)) romFindsCard

/-- THE TIED CARD OF 'cotterellaw09.RomLoads'. -/
def romLoadsCard : Claim7 := { stood := { row := romLoadsRow, standIns := [], harness := (true, "ef81543063f4ba5f1c774ca9fdd4416c8adb239c719eeecd79f77349a7be26b1"), looks := false }, kinds := [], alts := [], laidByText := true, laidKinds := [.data, .pinned], laidTests := true, laidLooks := .later }
def RomLoadsCardSaid : Prop := Claim7.holds Tryd.pinned (.plain (OpenSpec.ofChange romLoadsSpec)) romLoadsCard

/-- THE TIED CARD OF 'cotterellaw09.RomLays'. -/
def romLaysCard : Claim7 := { stood := { row := romLaysRow, standIns := [], harness := (true, "ef81543063f4ba5f1c774ca9fdd4416c8adb239c719eeecd79f77349a7be26b1"), looks := false }, kinds := [], alts := [], laidByText := true, laidKinds := [.data, .pinned], laidTests := true, laidLooks := .later }
def RomLaysCardSaid : Prop := Claim7.holds Tryd.pinned (.plain (OpenSpec.ofChange romLaysSpec)) romLaysCard

/-- THE SECOND FORM's CARD OF 'cotterellaw09.RomTexts'. -/
def romTextsUptoCard : Claim7 := { stood := { row := romTextsUptoRow, standIns := [], harness := (true, "ef81543063f4ba5f1c774ca9fdd4416c8adb239c719eeecd79f77349a7be26b1"), looks := false }, kinds := [], alts := [], laidByText := true, laidKinds := [.data, .pinned], laidTests := true, laidLooks := .later }
def RomTextsUptoCardSaid : Prop := Claim7.holds Tryd.pinned (.plain (OpenSpec.upto romTextsSpec)) romTextsUptoCard

/-- THE SECOND FORM's CARD OF 'cotterellaw09.RomParses'. -/
def romParsesUptoCard : Claim7 := { stood := { row := romParsesUptoRow, standIns := [], harness := (true, "ef81543063f4ba5f1c774ca9fdd4416c8adb239c719eeecd79f77349a7be26b1"), looks := false }, kinds := [], alts := [], laidByText := true, laidKinds := [.data, .pinned], laidTests := true, laidLooks := .later }
def RomParsesUptoCardSaid : Prop := Claim7.holds Tryd.pinned (.plain (OpenSpec.upto romParsesSpec)) romParsesUptoCard

/-- THE SECOND FORM's CARD OF 'cotterellaw09.RomBack'. -/
def romBackUptoCard : Claim7 := { stood := { row := romBackUptoRow, standIns := [], harness := (true, "ef81543063f4ba5f1c774ca9fdd4416c8adb239c719eeecd79f77349a7be26b1"), looks := false }, kinds := [], alts := [], laidByText := true, laidKinds := [.data, .pinned], laidTests := true, laidLooks := .later }
def RomBackUptoCardSaid : Prop := Claim7.holds Tryd.pinned (.plain (OpenSpec.upto romBackSpec)) romBackUptoCard

/-- THE SECOND FORM's CARD OF 'cotterellaw09.RomFinds'. -/
def romFindsUptoCard : Claim7 := { stood := { row := romFindsUptoRow, standIns := [], harness := (true, "ef81543063f4ba5f1c774ca9fdd4416c8adb239c719eeecd79f77349a7be26b1"), looks := false }, kinds := [], alts := [], laidByText := true, laidKinds := [.data, .pinned], laidTests := true, laidLooks := .later }
def RomFindsUptoCardSaid : Prop := Claim7.holds Tryd.pinned (.plain (OpenSpec.upto romFindsSpec)) romFindsUptoCard

/-- THE SECOND FORM's CARD OF 'cotterellaw09.RomLoads'. -/
def romLoadsUptoCard : Claim7 := { stood := { row := romLoadsUptoRow, standIns := [], harness := (true, "ef81543063f4ba5f1c774ca9fdd4416c8adb239c719eeecd79f77349a7be26b1"), looks := false }, kinds := [], alts := [], laidByText := true, laidKinds := [.data, .pinned], laidTests := true, laidLooks := .later }
def RomLoadsUptoCardSaid : Prop := Claim7.holds Tryd.pinned (.plain (OpenSpec.upto romLoadsSpec)) romLoadsUptoCard

/-- THE SECOND FORM's CARD OF 'cotterellaw09.RomLays'. -/
def romLaysUptoCard : Claim7 := { stood := { row := romLaysUptoRow, standIns := [], harness := (true, "ef81543063f4ba5f1c774ca9fdd4416c8adb239c719eeecd79f77349a7be26b1"), looks := false }, kinds := [], alts := [], laidByText := true, laidKinds := [.data, .pinned], laidTests := true, laidLooks := .later }
def RomLaysUptoCardSaid : Prop := Claim7.holds Tryd.pinned (.plain (OpenSpec.upto romLaysSpec)) romLaysUptoCard
end Rows
end Go.Proofs.YtnigkecpiolgeaaDoor
