/-
  NARROWER THAN 'FOR EVERY INPUT', by the rows' own cells (each row's printed sentence says how): RomTexts: laid · RomParses: laid · RomBack: laid · RomFinds: laid · RomLoads: laid · RomLays: laid.
  DERIVED. THE GIVEN ROWS OF THIS SEAT. 6 by the template 'for every input the law returns true; each argument reads behind the call as it read before'; 0 by the template 'total and deterministic' (their statements: YtnigkecpiolgeaaDoorTotals.lean).
  GIVEN WITH THE SEED: the statements are not yours to turn. If you find one false, say at which input.
  Laid BY PROGRAM, IN A SANDBOX (cutbox-rows.mjs): the forced cells as the released guide's own fill.sh prints them over the translation 17766409a24a24b6… (all of the seat's roots in one cut). By AI agents, Wed Nov 11 2026. No macro, syntax, notation, axiom, sorry.
-/
import Derived.Test.YtnigkecpiolgeaaDoorChecked
import GoSem.PinnedTables
import GoSem.Claim
import GoSem.ClaimJoined
import GoSem.ClaimMapViews
import Derived.JoinedTies
import Derived.KernelRfl
namespace Go.Proofs.YtnigkecpiolgeaaDoor
/- THE CELL 'sum', in the pinned program and in every row, IS THE sha256 OF THE DUMP (.gsa) THAT YtnigkecpiolgeaaDoorProg.lean LOADS. Nothing in Lean hashes anything: it is a label: what it is worth is what the hold of that sum in a sandbox is worth. -/
noncomputable def Tryd.pinned : Pinned := { name := "ytnigkecpiolgeaadoor", sum := "17766409a24a24b6d43dc6976e434d4ad9f4fbdf93c4b1d670cdd67aa594b2ed", checked := Tryd.checked }
namespace Rows
def none {H : Type} : Left H := { results := [], args := [] }

/- WHAT THE LISTED PACKAGE-LEVEL VARIABLES READ AS WHEN THE CALL BEGINS. Each datum BY PROGRAM (the guide's laid-datum.mjs) off the statement by which the dump's own 'gosem.cut.vars' lays the variable. In a bare row this is a premise. The card (YtnigkecpiolgeaaDoorCards.lean) ties it to the program's text. -/
def laid_unicode_utf8_acceptRanges {H : Type} : DataW H := .agg [.agg [.lit (.int .u8 128), .lit (.int .u8 191)], .agg [.lit (.int .u8 160), .lit (.int .u8 191)], .agg [.lit (.int .u8 128), .lit (.int .u8 159)], .agg [.lit (.int .u8 144), .lit (.int .u8 191)], .agg [.lit (.int .u8 128), .lit (.int .u8 143)], .agg [.lit (.int .u8 0), .lit (.int .u8 0)], .agg [.lit (.int .u8 0), .lit (.int .u8 0)], .agg [.lit (.int .u8 0), .lit (.int .u8 0)], .agg [.lit (.int .u8 0), .lit (.int .u8 0)], .agg [.lit (.int .u8 0), .lit (.int .u8 0)], .agg [.lit (.int .u8 0), .lit (.int .u8 0)], .agg [.lit (.int .u8 0), .lit (.int .u8 0)], .agg [.lit (.int .u8 0), .lit (.int .u8 0)], .agg [.lit (.int .u8 0), .lit (.int .u8 0)], .agg [.lit (.int .u8 0), .lit (.int .u8 0)], .agg [.lit (.int .u8 0), .lit (.int .u8 0)]]
/-- One of Go's own tables, pinned by name: the form's constant. -/
def laid_unicode_utf8_first : DataW Unit := Go.Pinned.utf8First

/-- 'cotterellaw09.RomTexts': WHATEVER THE INPUT: true; the input reads as it did. -/
def romTextsSpec : ChangeSpec := { name := "romTexts", fn := fun _ => fun
  | [d1, d2] => { results := [.lit (.bool true)], args := [d1, d2] }
  | _ => none }
def romTextsRow : OpenClaim := { program := "ytnigkecpiolgeaadoor", sum := "17766409a24a24b6d43dc6976e434d4ad9f4fbdf93c4b1d670cdd67aa594b2ed", func := "cotterel/cotterellaw09.RomTexts", spec := "romTexts", inPlace := ["internal/abi.NoEscape", "internal/bytealg.MakeNoZero", "internal/bytealg.CountString", "internal/bytealg.IndexByteString", "internal/bytealg.IndexString"], named := ["unicode/utf8.first", "unicode/utf8.acceptRanges", "internal/bytealg.MaxLen"], apart := false, laid := [("unicode/utf8.acceptRanges", laid_unicode_utf8_acceptRanges), ("unicode/utf8.first", laid_unicode_utf8_first)] }
def RomTextsSaid : Prop := romTextsRow.holds Tryd.pinned (OpenSpec.ofChange romTextsSpec)

/-- ITS FALSE NEIGHBOUR: 'it returns false'. Refute it at one input. -/
def romTextsWrong : ChangeSpec := { name := "romTexts", fn := fun _ => fun
  | [d1, d2] => { results := [.lit (.bool false)], args := [d1, d2] }
  | _ => none }
def RomTextsWrongFalsely : Prop := romTextsRow.holds Tryd.pinned (OpenSpec.ofChange romTextsWrong)

/-- 'cotterellaw09.RomParses': WHATEVER THE INPUT: true; the input reads as it did. -/
def romParsesSpec : ChangeSpec := { name := "romParses", fn := fun _ => fun
  | [d] => { results := [.lit (.bool true)], args := [d] }
  | _ => none }
def romParsesRow : OpenClaim := { program := "ytnigkecpiolgeaadoor", sum := "17766409a24a24b6d43dc6976e434d4ad9f4fbdf93c4b1d670cdd67aa594b2ed", func := "cotterel/cotterellaw09.RomParses", spec := "romParses", inPlace := ["internal/abi.NoEscape", "internal/bytealg.MakeNoZero", "internal/bytealg.CountString", "internal/bytealg.IndexByteString", "internal/bytealg.IndexString"], named := ["unicode/utf8.first", "unicode/utf8.acceptRanges", "internal/bytealg.MaxLen"], apart := false, laid := [("unicode/utf8.acceptRanges", laid_unicode_utf8_acceptRanges), ("unicode/utf8.first", laid_unicode_utf8_first)] }
def RomParsesSaid : Prop := romParsesRow.holds Tryd.pinned (OpenSpec.ofChange romParsesSpec)

/-- ITS FALSE NEIGHBOUR: 'it returns false'. Refute it at one input. -/
def romParsesWrong : ChangeSpec := { name := "romParses", fn := fun _ => fun
  | [d] => { results := [.lit (.bool false)], args := [d] }
  | _ => none }
def RomParsesWrongFalsely : Prop := romParsesRow.holds Tryd.pinned (OpenSpec.ofChange romParsesWrong)

/-- 'cotterellaw09.RomBack': WHATEVER THE INPUT: true; the input reads as it did. -/
def romBackSpec : ChangeSpec := { name := "romBack", fn := fun _ => fun
  | [d1, d2] => { results := [.lit (.bool true)], args := [d1, d2] }
  | _ => none }
def romBackRow : OpenClaim := { program := "ytnigkecpiolgeaadoor", sum := "17766409a24a24b6d43dc6976e434d4ad9f4fbdf93c4b1d670cdd67aa594b2ed", func := "cotterel/cotterellaw09.RomBack", spec := "romBack", inPlace := ["internal/abi.NoEscape", "internal/bytealg.MakeNoZero", "internal/bytealg.CountString", "internal/bytealg.IndexByteString", "internal/bytealg.IndexString"], named := ["unicode/utf8.first", "unicode/utf8.acceptRanges", "internal/bytealg.MaxLen"], apart := false, laid := [("unicode/utf8.acceptRanges", laid_unicode_utf8_acceptRanges), ("unicode/utf8.first", laid_unicode_utf8_first)] }
def RomBackSaid : Prop := romBackRow.holds Tryd.pinned (OpenSpec.ofChange romBackSpec)

/-- ITS FALSE NEIGHBOUR: 'it returns false'. Refute it at one input. -/
def romBackWrong : ChangeSpec := { name := "romBack", fn := fun _ => fun
  | [d1, d2] => { results := [.lit (.bool false)], args := [d1, d2] }
  | _ => none }
def RomBackWrongFalsely : Prop := romBackRow.holds Tryd.pinned (OpenSpec.ofChange romBackWrong)

/-- 'cotterellaw09.RomFinds': WHATEVER THE INPUT: true; the input reads as it did. -/
def romFindsSpec : ChangeSpec := { name := "romFinds", fn := fun _ => fun
  | [d1, d2, d3] => { results := [.lit (.bool true)], args := [d1, d2, d3] }
  | _ => none }
def romFindsRow : OpenClaim := { program := "ytnigkecpiolgeaadoor", sum := "17766409a24a24b6d43dc6976e434d4ad9f4fbdf93c4b1d670cdd67aa594b2ed", func := "cotterel/cotterellaw09.RomFinds", spec := "romFinds", inPlace := ["internal/abi.NoEscape", "internal/bytealg.MakeNoZero", "internal/bytealg.CountString", "internal/bytealg.IndexByteString", "internal/bytealg.IndexString"], named := ["unicode/utf8.first", "unicode/utf8.acceptRanges", "internal/bytealg.MaxLen"], apart := false, laid := [("unicode/utf8.acceptRanges", laid_unicode_utf8_acceptRanges), ("unicode/utf8.first", laid_unicode_utf8_first)] }
def RomFindsSaid : Prop := romFindsRow.holds Tryd.pinned (OpenSpec.ofChange romFindsSpec)

/-- ITS FALSE NEIGHBOUR: 'it returns false'. Refute it at one input. -/
def romFindsWrong : ChangeSpec := { name := "romFinds", fn := fun _ => fun
  | [d1, d2, d3] => { results := [.lit (.bool false)], args := [d1, d2, d3] }
  | _ => none }
def RomFindsWrongFalsely : Prop := romFindsRow.holds Tryd.pinned (OpenSpec.ofChange romFindsWrong)

/-- 'cotterellaw09.RomLoads': WHATEVER THE INPUT: true; the input reads as it did. -/
def romLoadsSpec : ChangeSpec := { name := "romLoads", fn := fun _ => fun
  | [d1, d2] => { results := [.lit (.bool true)], args := [d1, d2] }
  | _ => none }
def romLoadsRow : OpenClaim := { program := "ytnigkecpiolgeaadoor", sum := "17766409a24a24b6d43dc6976e434d4ad9f4fbdf93c4b1d670cdd67aa594b2ed", func := "cotterel/cotterellaw09.RomLoads", spec := "romLoads", inPlace := ["internal/abi.NoEscape", "internal/bytealg.MakeNoZero", "internal/bytealg.CountString", "internal/bytealg.IndexByteString", "internal/bytealg.IndexString"], named := ["unicode/utf8.first", "unicode/utf8.acceptRanges", "internal/bytealg.MaxLen"], apart := false, laid := [("unicode/utf8.acceptRanges", laid_unicode_utf8_acceptRanges), ("unicode/utf8.first", laid_unicode_utf8_first)] }
def RomLoadsSaid : Prop := romLoadsRow.holds Tryd.pinned (OpenSpec.ofChange romLoadsSpec)

/-- ITS FALSE NEIGHBOUR: 'it returns false'. Refute it at one input. -/
def romLoadsWrong : ChangeSpec := { name := "romLoads", fn := fun _ => fun
  | [d1, d2] => { results := [.lit (.bool false)], args := [d1, d2] }
  | _ => none }
def RomLoadsWrongFalsely : Prop := romLoadsRow.holds Tryd.pinned (OpenSpec.ofChange romLoadsWrong)

/-- 'cotterellaw09.RomLays': WHATEVER THE INPUT: true; the input reads as it did. -/
def romLaysSpec : ChangeSpec := { name := "romLays", fn := fun _ => fun
  | [d1, d2] => { results := [.lit (.bool true)], args := [d1, d2] }
  | _ => none }
def romLaysRow : OpenClaim := { program := "ytnigkecpiolgeaadoor", sum := "17766409a24a24b6d43dc6976e434d4ad9f4fbdf93c4b1d670cdd67aa594b2ed", func := "cotterel/cotterellaw09.RomLays", spec := "romLays", inPlace := ["internal/abi.NoEscape", "internal/bytealg.MakeNoZero", "internal/bytealg.CountString", "internal/bytealg.IndexByteString", "internal/bytealg.IndexString"], named := ["unicode/utf8.first", "unicode/utf8.acceptRanges", "internal/bytealg.MaxLen"], apart := false, laid := [("unicode/utf8.acceptRanges", laid_unicode_utf8_acceptRanges), ("unicode/utf8.first", laid_unicode_utf8_first)] }
def RomLaysSaid : Prop := romLaysRow.holds Tryd.pinned (OpenSpec.ofChange romLaysSpec)

/-- ITS FALSE NEIGHBOUR: 'it returns false'. Refute it at one input. -/
def romLaysWrong : ChangeSpec := { name := "romLays", fn := fun _ => fun
  | [d1, d2] => { results := [.lit (.bool false)], args := [d1, d2] }
  | _ => none }
def RomLaysWrongFalsely : Prop := romLaysRow.holds Tryd.pinned (OpenSpec.ofChange romLaysWrong)

/- THE SECOND FORM. 'bulk': how many values and letters a reading holds, each counted each time it is reached (what is shared counts as often as it is met; a slice's spare places count too). A statement '..UptoSaid' is the law's where the arguments, and the package variables that the reading takes, are together of bulk at most 1048576: NARROWER than '..Said'. Prove '..Said' where nothing that the law and all that it calls make is longer than what came in: it says more and counts as full. Else prove '..UptoSaid'. A law counts once. -/
mutual
def uptoBulk {H : Type} : DataW H → Nat
  | .lit (.string bytes) => bytes.length + 1
  | .lit _ => 1
  | .nil => 1
  | .ptr d => uptoBulk d + 1
  | .slice elems spare => uptoBulkAll elems + uptoBulkAll spare + 1
  | .agg parts => uptoBulkAll parts + 1
  | .iface _ d => uptoBulk d + 1
  | .map entries => uptoBulkEntries entries + 1
  | .held _ => 1
def uptoBulkAll {H : Type} : List (DataW H) → Nat
  | [] => 0
  | d :: r => uptoBulk d + uptoBulkAll r
def uptoBulkEntries {H : Type} : List (Lit × DataW H) → Nat
  | [] => 0
  | x :: r => uptoBulkEntry x + uptoBulkEntries r
def uptoBulkEntry {H : Type} : Lit × DataW H → Nat
  | (.string bytes, d) => bytes.length + uptoBulk d + 1
  | (_, d) => uptoBulk d + 1
 end
def uptoSmall : (H : Type) → List (DataW H) → Bool := fun _ ds => decide (uptoBulkAll ds ≤ 1048576)
def OpenSpec.upto (s : _root_.Go.ChangeSpec) : _root_.Go.OpenSpec := { _root_.Go.OpenSpec.ofChange s with cond := some uptoSmall }

/-- 'cotterellaw09.RomTexts', WHERE WHAT IT READS IS OF BULK AT MOST 1048576: true; the input reads as it did. -/
def romTextsUptoRow : OpenClaim := { program := "ytnigkecpiolgeaadoor", sum := "17766409a24a24b6d43dc6976e434d4ad9f4fbdf93c4b1d670cdd67aa594b2ed", func := "cotterel/cotterellaw09.RomTexts", spec := "romTexts", inPlace := ["internal/abi.NoEscape", "internal/bytealg.MakeNoZero", "internal/bytealg.CountString", "internal/bytealg.IndexByteString", "internal/bytealg.IndexString"], named := ["unicode/utf8.first", "unicode/utf8.acceptRanges", "internal/bytealg.MaxLen"], apart := false, laid := [("unicode/utf8.acceptRanges", laid_unicode_utf8_acceptRanges), ("unicode/utf8.first", laid_unicode_utf8_first)], narrowed := true }
def RomTextsUptoSaid : Prop := romTextsUptoRow.holds Tryd.pinned (OpenSpec.upto romTextsSpec)

/-- 'cotterellaw09.RomParses', WHERE WHAT IT READS IS OF BULK AT MOST 1048576: true; the input reads as it did. -/
def romParsesUptoRow : OpenClaim := { program := "ytnigkecpiolgeaadoor", sum := "17766409a24a24b6d43dc6976e434d4ad9f4fbdf93c4b1d670cdd67aa594b2ed", func := "cotterel/cotterellaw09.RomParses", spec := "romParses", inPlace := ["internal/abi.NoEscape", "internal/bytealg.MakeNoZero", "internal/bytealg.CountString", "internal/bytealg.IndexByteString", "internal/bytealg.IndexString"], named := ["unicode/utf8.first", "unicode/utf8.acceptRanges", "internal/bytealg.MaxLen"], apart := false, laid := [("unicode/utf8.acceptRanges", laid_unicode_utf8_acceptRanges), ("unicode/utf8.first", laid_unicode_utf8_first)], narrowed := true }
def RomParsesUptoSaid : Prop := romParsesUptoRow.holds Tryd.pinned (OpenSpec.upto romParsesSpec)

/-- 'cotterellaw09.RomBack', WHERE WHAT IT READS IS OF BULK AT MOST 1048576: true; the input reads as it did. -/
def romBackUptoRow : OpenClaim := { program := "ytnigkecpiolgeaadoor", sum := "17766409a24a24b6d43dc6976e434d4ad9f4fbdf93c4b1d670cdd67aa594b2ed", func := "cotterel/cotterellaw09.RomBack", spec := "romBack", inPlace := ["internal/abi.NoEscape", "internal/bytealg.MakeNoZero", "internal/bytealg.CountString", "internal/bytealg.IndexByteString", "internal/bytealg.IndexString"], named := ["unicode/utf8.first", "unicode/utf8.acceptRanges", "internal/bytealg.MaxLen"], apart := false, laid := [("unicode/utf8.acceptRanges", laid_unicode_utf8_acceptRanges), ("unicode/utf8.first", laid_unicode_utf8_first)], narrowed := true }
def RomBackUptoSaid : Prop := romBackUptoRow.holds Tryd.pinned (OpenSpec.upto romBackSpec)

/-- 'cotterellaw09.RomFinds', WHERE WHAT IT READS IS OF BULK AT MOST 1048576: true; the input reads as it did. -/
def romFindsUptoRow : OpenClaim := { program := "ytnigkecpiolgeaadoor", sum := "17766409a24a24b6d43dc6976e434d4ad9f4fbdf93c4b1d670cdd67aa594b2ed", func := "cotterel/cotterellaw09.RomFinds", spec := "romFinds", inPlace := ["internal/abi.NoEscape", "internal/bytealg.MakeNoZero", "internal/bytealg.CountString", "internal/bytealg.IndexByteString", "internal/bytealg.IndexString"], named := ["unicode/utf8.first", "unicode/utf8.acceptRanges", "internal/bytealg.MaxLen"], apart := false, laid := [("unicode/utf8.acceptRanges", laid_unicode_utf8_acceptRanges), ("unicode/utf8.first", laid_unicode_utf8_first)], narrowed := true }
def RomFindsUptoSaid : Prop := romFindsUptoRow.holds Tryd.pinned (OpenSpec.upto romFindsSpec)

/-- 'cotterellaw09.RomLoads', WHERE WHAT IT READS IS OF BULK AT MOST 1048576: true; the input reads as it did. -/
def romLoadsUptoRow : OpenClaim := { program := "ytnigkecpiolgeaadoor", sum := "17766409a24a24b6d43dc6976e434d4ad9f4fbdf93c4b1d670cdd67aa594b2ed", func := "cotterel/cotterellaw09.RomLoads", spec := "romLoads", inPlace := ["internal/abi.NoEscape", "internal/bytealg.MakeNoZero", "internal/bytealg.CountString", "internal/bytealg.IndexByteString", "internal/bytealg.IndexString"], named := ["unicode/utf8.first", "unicode/utf8.acceptRanges", "internal/bytealg.MaxLen"], apart := false, laid := [("unicode/utf8.acceptRanges", laid_unicode_utf8_acceptRanges), ("unicode/utf8.first", laid_unicode_utf8_first)], narrowed := true }
def RomLoadsUptoSaid : Prop := romLoadsUptoRow.holds Tryd.pinned (OpenSpec.upto romLoadsSpec)

/-- 'cotterellaw09.RomLays', WHERE WHAT IT READS IS OF BULK AT MOST 1048576: true; the input reads as it did. -/
def romLaysUptoRow : OpenClaim := { program := "ytnigkecpiolgeaadoor", sum := "17766409a24a24b6d43dc6976e434d4ad9f4fbdf93c4b1d670cdd67aa594b2ed", func := "cotterel/cotterellaw09.RomLays", spec := "romLays", inPlace := ["internal/abi.NoEscape", "internal/bytealg.MakeNoZero", "internal/bytealg.CountString", "internal/bytealg.IndexByteString", "internal/bytealg.IndexString"], named := ["unicode/utf8.first", "unicode/utf8.acceptRanges", "internal/bytealg.MaxLen"], apart := false, laid := [("unicode/utf8.acceptRanges", laid_unicode_utf8_acceptRanges), ("unicode/utf8.first", laid_unicode_utf8_first)], narrowed := true }
def RomLaysUptoSaid : Prop := romLaysUptoRow.holds Tryd.pinned (OpenSpec.upto romLaysSpec)

end Rows
end Go.Proofs.YtnigkecpiolgeaaDoor
