/-
  No cell of these rows narrows 'for every input' (looked for: loops, veiled, ifaces, maps, wideKeys, modest, calm, conditions, laid).
  DERIVED. THE GIVEN ROWS OF THIS SEAT. 6 by the template 'for every input the law returns true; each argument reads behind the call as it read before'; 0 by the template 'total and deterministic' (their statements: YtfpidpdhheickaaTotals.lean).
  GIVEN WITH THE SEED: the statements are not yours to turn. If you find one false, say at which input.
  Laid BY PROGRAM, IN A SANDBOX (cutbox-rows.mjs): the forced cells as the released guide's own fill.sh prints them over the translation 82f83858f9efa79b… (all of the seat's roots in one cut). By AI agents, Wed Nov 11 2026. No macro, syntax, notation, axiom, sorry.
-/
import Derived.Test.YtfpidpdhheickaaChecked
import GoSem.Claim
import GoSem.ClaimJoined
import GoSem.ClaimMapViews
import Derived.JoinedTies
import Derived.KernelRfl
namespace Go.Proofs.Ytfpidpdhheickaa
/- THE CELL 'sum', in the pinned program and in every row, IS THE sha256 OF THE DUMP (.gsa) THAT YtfpidpdhheickaaProg.lean LOADS. Nothing in Lean hashes anything: it is a label: what it is worth is what the hold of that sum in a sandbox is worth. -/
noncomputable def Try.pinned : Pinned := { name := "ytfpidpdhheickaa", sum := "82f83858f9efa79b4b8cf3574ad6f196e3b59f8315aa8a2137d3ca2006d05084", checked := Try.checked }
namespace Rows
def none {H : Type} : Left H := { results := [], args := [] }

/-- 'cotterellaw02.NumDigits': WHATEVER THE INPUT: true; the input reads as it did. -/
def numDigitsSpec : ChangeSpec := { name := "numDigits", fn := fun _ => fun
  | [d1, d2] => { results := [.lit (.bool true)], args := [d1, d2] }
  | _ => none }
def numDigitsRow : OpenClaim := { program := "ytfpidpdhheickaa", sum := "82f83858f9efa79b4b8cf3574ad6f196e3b59f8315aa8a2137d3ca2006d05084", func := "cotterel/cotterellaw02.NumDigits", spec := "numDigits", apart := false }
def NumDigitsSaid : Prop := numDigitsRow.holds Try.pinned (OpenSpec.ofChange numDigitsSpec)

/-- ITS FALSE NEIGHBOUR: 'it returns false'. Refute it at one input. -/
def numDigitsWrong : ChangeSpec := { name := "numDigits", fn := fun _ => fun
  | [d1, d2] => { results := [.lit (.bool false)], args := [d1, d2] }
  | _ => none }
def NumDigitsWrongFalsely : Prop := numDigitsRow.holds Try.pinned (OpenSpec.ofChange numDigitsWrong)

/-- 'cotterellaw02.NumParse': WHATEVER THE INPUT: true; the input reads as it did. -/
def numParseSpec : ChangeSpec := { name := "numParse", fn := fun _ => fun
  | [d] => { results := [.lit (.bool true)], args := [d] }
  | _ => none }
def numParseRow : OpenClaim := { program := "ytfpidpdhheickaa", sum := "82f83858f9efa79b4b8cf3574ad6f196e3b59f8315aa8a2137d3ca2006d05084", func := "cotterel/cotterellaw02.NumParse", spec := "numParse", apart := false }
def NumParseSaid : Prop := numParseRow.holds Try.pinned (OpenSpec.ofChange numParseSpec)

/-- ITS FALSE NEIGHBOUR: 'it returns false'. Refute it at one input. -/
def numParseWrong : ChangeSpec := { name := "numParse", fn := fun _ => fun
  | [d] => { results := [.lit (.bool false)], args := [d] }
  | _ => none }
def NumParseWrongFalsely : Prop := numParseRow.holds Try.pinned (OpenSpec.ofChange numParseWrong)

/-- 'cotterellaw02.NumWords': WHATEVER THE INPUT: true; the input reads as it did. -/
def numWordsSpec : ChangeSpec := { name := "numWords", fn := fun _ => fun
  | [d] => { results := [.lit (.bool true)], args := [d] }
  | _ => none }
def numWordsRow : OpenClaim := { program := "ytfpidpdhheickaa", sum := "82f83858f9efa79b4b8cf3574ad6f196e3b59f8315aa8a2137d3ca2006d05084", func := "cotterel/cotterellaw02.NumWords", spec := "numWords", apart := false }
def NumWordsSaid : Prop := numWordsRow.holds Try.pinned (OpenSpec.ofChange numWordsSpec)

/-- ITS FALSE NEIGHBOUR: 'it returns false'. Refute it at one input. -/
def numWordsWrong : ChangeSpec := { name := "numWords", fn := fun _ => fun
  | [d] => { results := [.lit (.bool false)], args := [d] }
  | _ => none }
def NumWordsWrongFalsely : Prop := numWordsRow.holds Try.pinned (OpenSpec.ofChange numWordsWrong)

/-- 'cotterellaw02.NumBack': WHATEVER THE INPUT: true; the input reads as it did. -/
def numBackSpec : ChangeSpec := { name := "numBack", fn := fun _ => fun
  | [d1, d2] => { results := [.lit (.bool true)], args := [d1, d2] }
  | _ => none }
def numBackRow : OpenClaim := { program := "ytfpidpdhheickaa", sum := "82f83858f9efa79b4b8cf3574ad6f196e3b59f8315aa8a2137d3ca2006d05084", func := "cotterel/cotterellaw02.NumBack", spec := "numBack", apart := false }
def NumBackSaid : Prop := numBackRow.holds Try.pinned (OpenSpec.ofChange numBackSpec)

/-- ITS FALSE NEIGHBOUR: 'it returns false'. Refute it at one input. -/
def numBackWrong : ChangeSpec := { name := "numBack", fn := fun _ => fun
  | [d1, d2] => { results := [.lit (.bool false)], args := [d1, d2] }
  | _ => none }
def NumBackWrongFalsely : Prop := numBackRow.holds Try.pinned (OpenSpec.ofChange numBackWrong)

/-- 'cotterellaw02.NumLines': WHATEVER THE INPUT: true; the input reads as it did. -/
def numLinesSpec : ChangeSpec := { name := "numLines", fn := fun _ => fun
  | [d] => { results := [.lit (.bool true)], args := [d] }
  | _ => none }
def numLinesRow : OpenClaim := { program := "ytfpidpdhheickaa", sum := "82f83858f9efa79b4b8cf3574ad6f196e3b59f8315aa8a2137d3ca2006d05084", func := "cotterel/cotterellaw02.NumLines", spec := "numLines", apart := false }
def NumLinesSaid : Prop := numLinesRow.holds Try.pinned (OpenSpec.ofChange numLinesSpec)

/-- ITS FALSE NEIGHBOUR: 'it returns false'. Refute it at one input. -/
def numLinesWrong : ChangeSpec := { name := "numLines", fn := fun _ => fun
  | [d] => { results := [.lit (.bool false)], args := [d] }
  | _ => none }
def NumLinesWrongFalsely : Prop := numLinesRow.holds Try.pinned (OpenSpec.ofChange numLinesWrong)

/-- 'cotterellaw02.NumJoined': WHATEVER THE INPUT: true; the input reads as it did. -/
def numJoinedSpec : ChangeSpec := { name := "numJoined", fn := fun _ => fun
  | [d1, d2] => { results := [.lit (.bool true)], args := [d1, d2] }
  | _ => none }
def numJoinedRow : OpenClaim := { program := "ytfpidpdhheickaa", sum := "82f83858f9efa79b4b8cf3574ad6f196e3b59f8315aa8a2137d3ca2006d05084", func := "cotterel/cotterellaw02.NumJoined", spec := "numJoined", apart := false }
def NumJoinedSaid : Prop := numJoinedRow.holds Try.pinned (OpenSpec.ofChange numJoinedSpec)

/-- ITS FALSE NEIGHBOUR: 'it returns false'. Refute it at one input. -/
def numJoinedWrong : ChangeSpec := { name := "numJoined", fn := fun _ => fun
  | [d1, d2] => { results := [.lit (.bool false)], args := [d1, d2] }
  | _ => none }
def NumJoinedWrongFalsely : Prop := numJoinedRow.holds Try.pinned (OpenSpec.ofChange numJoinedWrong)

/- THE SECOND FORM. 'bulk': how many values and letters a reading holds, each counted each time it is reached (what is shared counts as often as it is met; a slice's spare places count too). A statement '..UptoSaid' is the law's where the arguments, and the package variables that the reading takes, are together of bulk at most 1048576: NARROWER than '..Said'. Prove '..Said' where nothing that the law and all that it calls make is longer than what came in: it says more and counts as full. Else prove '..UptoSaid'. A law counts once. -/
mutual
def uptoBulk {H : Type} : DataW H → Nat
  | .lit (.string bytes) => bytes.length + 1
  | .lit _ => 1
  | .nil => 1
  | .ptr d => uptoBulk d + 1
  | .slice elems spare => uptoBulkAll elems + uptoBulkAll spare + 1
  | .agg parts => uptoBulkAll parts + 1
  | .iface _ d => uptoBulk d + 1
  | .map entries => uptoBulkEntries entries + 1
  | .held _ => 1
def uptoBulkAll {H : Type} : List (DataW H) → Nat
  | [] => 0
  | d :: r => uptoBulk d + uptoBulkAll r
def uptoBulkEntries {H : Type} : List (Lit × DataW H) → Nat
  | [] => 0
  | x :: r => uptoBulkEntry x + uptoBulkEntries r
def uptoBulkEntry {H : Type} : Lit × DataW H → Nat
  | (.string bytes, d) => bytes.length + uptoBulk d + 1
  | (_, d) => uptoBulk d + 1
 end
def uptoSmall : (H : Type) → List (DataW H) → Bool := fun _ ds => decide (uptoBulkAll ds ≤ 1048576)
def OpenSpec.upto (s : _root_.Go.ChangeSpec) : _root_.Go.OpenSpec := { _root_.Go.OpenSpec.ofChange s with cond := some uptoSmall }

/-- 'cotterellaw02.NumDigits', WHERE WHAT IT READS IS OF BULK AT MOST 1048576: true; the input reads as it did. -/
def numDigitsUptoRow : OpenClaim := { program := "ytfpidpdhheickaa", sum := "82f83858f9efa79b4b8cf3574ad6f196e3b59f8315aa8a2137d3ca2006d05084", func := "cotterel/cotterellaw02.NumDigits", spec := "numDigits", apart := false, narrowed := true }
def NumDigitsUptoSaid : Prop := numDigitsUptoRow.holds Try.pinned (OpenSpec.upto numDigitsSpec)

/-- 'cotterellaw02.NumParse', WHERE WHAT IT READS IS OF BULK AT MOST 1048576: true; the input reads as it did. -/
def numParseUptoRow : OpenClaim := { program := "ytfpidpdhheickaa", sum := "82f83858f9efa79b4b8cf3574ad6f196e3b59f8315aa8a2137d3ca2006d05084", func := "cotterel/cotterellaw02.NumParse", spec := "numParse", apart := false, narrowed := true }
def NumParseUptoSaid : Prop := numParseUptoRow.holds Try.pinned (OpenSpec.upto numParseSpec)

/-- 'cotterellaw02.NumWords', WHERE WHAT IT READS IS OF BULK AT MOST 1048576: true; the input reads as it did. -/
def numWordsUptoRow : OpenClaim := { program := "ytfpidpdhheickaa", sum := "82f83858f9efa79b4b8cf3574ad6f196e3b59f8315aa8a2137d3ca2006d05084", func := "cotterel/cotterellaw02.NumWords", spec := "numWords", apart := false, narrowed := true }
def NumWordsUptoSaid : Prop := numWordsUptoRow.holds Try.pinned (OpenSpec.upto numWordsSpec)

/-- 'cotterellaw02.NumBack', WHERE WHAT IT READS IS OF BULK AT MOST 1048576: true; the input reads as it did. -/
def numBackUptoRow : OpenClaim := { program := "ytfpidpdhheickaa", sum := "82f83858f9efa79b4b8cf3574ad6f196e3b59f8315aa8a2137d3ca2006d05084", func := "cotterel/cotterellaw02.NumBack", spec := "numBack", apart := false, narrowed := true }
def NumBackUptoSaid : Prop := numBackUptoRow.holds Try.pinned (OpenSpec.upto numBackSpec)

/-- 'cotterellaw02.NumLines', WHERE WHAT IT READS IS OF BULK AT MOST 1048576: true; the input reads as it did. -/
def numLinesUptoRow : OpenClaim := { program := "ytfpidpdhheickaa", sum := "82f83858f9efa79b4b8cf3574ad6f196e3b59f8315aa8a2137d3ca2006d05084", func := "cotterel/cotterellaw02.NumLines", spec := "numLines", apart := false, narrowed := true }
def NumLinesUptoSaid : Prop := numLinesUptoRow.holds Try.pinned (OpenSpec.upto numLinesSpec)

/-- 'cotterellaw02.NumJoined', WHERE WHAT IT READS IS OF BULK AT MOST 1048576: true; the input reads as it did. -/
def numJoinedUptoRow : OpenClaim := { program := "ytfpidpdhheickaa", sum := "82f83858f9efa79b4b8cf3574ad6f196e3b59f8315aa8a2137d3ca2006d05084", func := "cotterel/cotterellaw02.NumJoined", spec := "numJoined", apart := false, narrowed := true }
def NumJoinedUptoSaid : Prop := numJoinedUptoRow.holds Try.pinned (OpenSpec.upto numJoinedSpec)

end Rows
end Go.Proofs.Ytfpidpdhheickaa
