/-
  No cell of these rows narrows 'for every input' (looked for: loops, veiled, ifaces, maps, wideKeys, modest, calm, conditions, laid).
  DERIVED. THE GIVEN ROWS OF THIS SEAT. 4 by the template 'for every input the law returns true; each argument reads behind the call as it read before'; 0 by the template 'total and deterministic' (their statements: YtfapojamfgeikaaTotals.lean).
  GIVEN WITH THE SEED: the statements are not yours to turn. If you find one false, say at which input.
  Laid BY PROGRAM, IN A SANDBOX (cutbox-rows.mjs): the forced cells as the released guide's own fill.sh prints them over the translation cbdffe9ae8ddf445… (all of the seat's roots in one cut). By AI agents, Wed Nov 11 2026. No macro, syntax, notation, axiom, sorry.
-/
import Derived.Test.YtfapojamfgeikaaChecked
import GoSem.Claim
import GoSem.ClaimJoined
import GoSem.ClaimMapViews
import Derived.JoinedTies
import Derived.KernelRfl
namespace Go.Proofs.Ytfapojamfgeikaa
/- THE CELL 'sum', in the pinned program and in every row, IS THE sha256 OF THE DUMP (.gsa) THAT YtfapojamfgeikaaProg.lean LOADS. Nothing in Lean hashes anything: it is a label: what it is worth is what the hold of that sum in a sandbox is worth. -/
noncomputable def Try.pinned : Pinned := { name := "ytfapojamfgeikaa", sum := "cbdffe9ae8ddf445771bfb98be8e0202207650d3c564cde3b340260841f0e243", checked := Try.checked }
namespace Rows
def none {H : Type} : Left H := { results := [], args := [] }

/-- 'cotterellaw26.RatDoes': WHATEVER THE INPUT: true; the input reads as it did. -/
def ratDoesSpec : ChangeSpec := { name := "ratDoes", fn := fun _ => fun
  | [d1, d2, d3] => { results := [.lit (.bool true)], args := [d1, d2, d3] }
  | _ => none }
def ratDoesRow : OpenClaim := { program := "ytfapojamfgeikaa", sum := "cbdffe9ae8ddf445771bfb98be8e0202207650d3c564cde3b340260841f0e243", func := "cotterel/cotterellaw26.RatDoes", spec := "ratDoes", apart := false }
def RatDoesSaid : Prop := ratDoesRow.holds Try.pinned (OpenSpec.ofChange ratDoesSpec)

/-- ITS FALSE NEIGHBOUR: 'it returns false'. Refute it at one input. -/
def ratDoesWrong : ChangeSpec := { name := "ratDoes", fn := fun _ => fun
  | [d1, d2, d3] => { results := [.lit (.bool false)], args := [d1, d2, d3] }
  | _ => none }
def RatDoesWrongFalsely : Prop := ratDoesRow.holds Try.pinned (OpenSpec.ofChange ratDoesWrong)

/-- 'cotterellaw26.RatTells': WHATEVER THE INPUT: true; the input reads as it did. -/
def ratTellsSpec : ChangeSpec := { name := "ratTells", fn := fun _ => fun
  | [d1, d2, d3] => { results := [.lit (.bool true)], args := [d1, d2, d3] }
  | _ => none }
def ratTellsRow : OpenClaim := { program := "ytfapojamfgeikaa", sum := "cbdffe9ae8ddf445771bfb98be8e0202207650d3c564cde3b340260841f0e243", func := "cotterel/cotterellaw26.RatTells", spec := "ratTells", apart := false }
def RatTellsSaid : Prop := ratTellsRow.holds Try.pinned (OpenSpec.ofChange ratTellsSpec)

/-- ITS FALSE NEIGHBOUR: 'it returns false'. Refute it at one input. -/
def ratTellsWrong : ChangeSpec := { name := "ratTells", fn := fun _ => fun
  | [d1, d2, d3] => { results := [.lit (.bool false)], args := [d1, d2, d3] }
  | _ => none }
def RatTellsWrongFalsely : Prop := ratTellsRow.holds Try.pinned (OpenSpec.ofChange ratTellsWrong)

/-- 'cotterellaw26.RatSets': WHATEVER THE INPUT: true; the input reads as it did. -/
def ratSetsSpec : ChangeSpec := { name := "ratSets", fn := fun _ => fun
  | [d1, d2, d3] => { results := [.lit (.bool true)], args := [d1, d2, d3] }
  | _ => none }
def ratSetsRow : OpenClaim := { program := "ytfapojamfgeikaa", sum := "cbdffe9ae8ddf445771bfb98be8e0202207650d3c564cde3b340260841f0e243", func := "cotterel/cotterellaw26.RatSets", spec := "ratSets", apart := false }
def RatSetsSaid : Prop := ratSetsRow.holds Try.pinned (OpenSpec.ofChange ratSetsSpec)

/-- ITS FALSE NEIGHBOUR: 'it returns false'. Refute it at one input. -/
def ratSetsWrong : ChangeSpec := { name := "ratSets", fn := fun _ => fun
  | [d1, d2, d3] => { results := [.lit (.bool false)], args := [d1, d2, d3] }
  | _ => none }
def RatSetsWrongFalsely : Prop := ratSetsRow.holds Try.pinned (OpenSpec.ofChange ratSetsWrong)

/-- 'cotterellaw26.RatFresh': WHATEVER THE INPUT: true; the input reads as it did. -/
def ratFreshSpec : ChangeSpec := { name := "ratFresh", fn := fun _ => fun
  | [d1, d2, d3] => { results := [.lit (.bool true)], args := [d1, d2, d3] }
  | _ => none }
def ratFreshRow : OpenClaim := { program := "ytfapojamfgeikaa", sum := "cbdffe9ae8ddf445771bfb98be8e0202207650d3c564cde3b340260841f0e243", func := "cotterel/cotterellaw26.RatFresh", spec := "ratFresh", apart := false }
def RatFreshSaid : Prop := ratFreshRow.holds Try.pinned (OpenSpec.ofChange ratFreshSpec)

/-- ITS FALSE NEIGHBOUR: 'it returns false'. Refute it at one input. -/
def ratFreshWrong : ChangeSpec := { name := "ratFresh", fn := fun _ => fun
  | [d1, d2, d3] => { results := [.lit (.bool false)], args := [d1, d2, d3] }
  | _ => none }
def RatFreshWrongFalsely : Prop := ratFreshRow.holds Try.pinned (OpenSpec.ofChange ratFreshWrong)

/- THE SECOND FORM. 'bulk': how many values and letters a reading holds, each counted each time it is reached (what is shared counts as often as it is met; a slice's spare places count too). A statement '..UptoSaid' is the law's where the arguments, and the package variables that the reading takes, are together of bulk at most 1048576: NARROWER than '..Said'. Prove '..Said' where nothing that the law and all that it calls make is longer than what came in: it says more and counts as full. Else prove '..UptoSaid'. A law counts once. -/
mutual
def uptoBulk {H : Type} : DataW H → Nat
  | .lit (.string bytes) => bytes.length + 1
  | .lit _ => 1
  | .nil => 1
  | .ptr d => uptoBulk d + 1
  | .slice elems spare => uptoBulkAll elems + uptoBulkAll spare + 1
  | .agg parts => uptoBulkAll parts + 1
  | .iface _ d => uptoBulk d + 1
  | .map entries => uptoBulkEntries entries + 1
  | .held _ => 1
def uptoBulkAll {H : Type} : List (DataW H) → Nat
  | [] => 0
  | d :: r => uptoBulk d + uptoBulkAll r
def uptoBulkEntries {H : Type} : List (Lit × DataW H) → Nat
  | [] => 0
  | x :: r => uptoBulkEntry x + uptoBulkEntries r
def uptoBulkEntry {H : Type} : Lit × DataW H → Nat
  | (.string bytes, d) => bytes.length + uptoBulk d + 1
  | (_, d) => uptoBulk d + 1
 end
def uptoSmall : (H : Type) → List (DataW H) → Bool := fun _ ds => decide (uptoBulkAll ds ≤ 1048576)
def OpenSpec.upto (s : _root_.Go.ChangeSpec) : _root_.Go.OpenSpec := { _root_.Go.OpenSpec.ofChange s with cond := some uptoSmall }

/-- 'cotterellaw26.RatDoes', WHERE WHAT IT READS IS OF BULK AT MOST 1048576: true; the input reads as it did. -/
def ratDoesUptoRow : OpenClaim := { program := "ytfapojamfgeikaa", sum := "cbdffe9ae8ddf445771bfb98be8e0202207650d3c564cde3b340260841f0e243", func := "cotterel/cotterellaw26.RatDoes", spec := "ratDoes", apart := false, narrowed := true }
def RatDoesUptoSaid : Prop := ratDoesUptoRow.holds Try.pinned (OpenSpec.upto ratDoesSpec)

/-- 'cotterellaw26.RatTells', WHERE WHAT IT READS IS OF BULK AT MOST 1048576: true; the input reads as it did. -/
def ratTellsUptoRow : OpenClaim := { program := "ytfapojamfgeikaa", sum := "cbdffe9ae8ddf445771bfb98be8e0202207650d3c564cde3b340260841f0e243", func := "cotterel/cotterellaw26.RatTells", spec := "ratTells", apart := false, narrowed := true }
def RatTellsUptoSaid : Prop := ratTellsUptoRow.holds Try.pinned (OpenSpec.upto ratTellsSpec)

/-- 'cotterellaw26.RatSets', WHERE WHAT IT READS IS OF BULK AT MOST 1048576: true; the input reads as it did. -/
def ratSetsUptoRow : OpenClaim := { program := "ytfapojamfgeikaa", sum := "cbdffe9ae8ddf445771bfb98be8e0202207650d3c564cde3b340260841f0e243", func := "cotterel/cotterellaw26.RatSets", spec := "ratSets", apart := false, narrowed := true }
def RatSetsUptoSaid : Prop := ratSetsUptoRow.holds Try.pinned (OpenSpec.upto ratSetsSpec)

/-- 'cotterellaw26.RatFresh', WHERE WHAT IT READS IS OF BULK AT MOST 1048576: true; the input reads as it did. -/
def ratFreshUptoRow : OpenClaim := { program := "ytfapojamfgeikaa", sum := "cbdffe9ae8ddf445771bfb98be8e0202207650d3c564cde3b340260841f0e243", func := "cotterel/cotterellaw26.RatFresh", spec := "ratFresh", apart := false, narrowed := true }
def RatFreshUptoSaid : Prop := ratFreshUptoRow.holds Try.pinned (OpenSpec.upto ratFreshSpec)

end Rows
end Go.Proofs.Ytfapojamfgeikaa
