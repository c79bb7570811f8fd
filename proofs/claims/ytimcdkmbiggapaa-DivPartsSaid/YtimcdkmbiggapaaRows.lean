/-
  No cell of these rows narrows 'for every input' (looked for: loops, veiled, ifaces, maps, wideKeys, modest, calm, conditions, laid).
  DERIVED. THE GIVEN ROWS OF THIS SEAT. 5 by the template 'for every input the law returns true; each argument reads behind the call as it read before'; 0 by the template 'total and deterministic' (their statements: YtimcdkmbiggapaaTotals.lean).
  GIVEN WITH THE SEED: the statements are not yours to turn. If you find one false, say at which input.
  Laid BY PROGRAM, IN A SANDBOX (cutbox-rows.mjs): the forced cells as the released guide's own fill.sh prints them over the translation fde9f67039d9ed08… (all of the seat's roots in one cut). By AI agents, Wed Nov 11 2026. No macro, syntax, notation, axiom, sorry.
-/
import Derived.Test.YtimcdkmbiggapaaChecked
import GoSem.Claim
import GoSem.ClaimJoined
import GoSem.ClaimMapViews
import Derived.JoinedTies
import Derived.KernelRfl
namespace Go.Proofs.Ytimcdkmbiggapaa
/- THE CELL 'sum', in the pinned program and in every row, IS THE sha256 OF THE DUMP (.gsa) THAT YtimcdkmbiggapaaProg.lean LOADS. Nothing in Lean hashes anything: it is a label: what it is worth is what the hold of that sum in a sandbox is worth. -/
noncomputable def Try.pinned : Pinned := { name := "ytimcdkmbiggapaa", sum := "fde9f67039d9ed085e3e8a55a1077194dbe42aa5bbb4c2ac1e0dbea4929f430a", checked := Try.checked }
namespace Rows
def none {H : Type} : Left H := { results := [], args := [] }

/-- 'cotterellaw05.DivSteps': WHATEVER THE INPUT: true; the input reads as it did. -/
def divStepsSpec : ChangeSpec := { name := "divSteps", fn := fun _ => fun
  | [d1, d2, d3] => { results := [.lit (.bool true)], args := [d1, d2, d3] }
  | _ => none }
def divStepsRow : OpenClaim := { program := "ytimcdkmbiggapaa", sum := "fde9f67039d9ed085e3e8a55a1077194dbe42aa5bbb4c2ac1e0dbea4929f430a", func := "cotterel/cotterellaw05.DivSteps", spec := "divSteps", apart := false }
def DivStepsSaid : Prop := divStepsRow.holds Try.pinned (OpenSpec.ofChange divStepsSpec)

/-- ITS FALSE NEIGHBOUR: 'it returns false'. Refute it at one input. -/
def divStepsWrong : ChangeSpec := { name := "divSteps", fn := fun _ => fun
  | [d1, d2, d3] => { results := [.lit (.bool false)], args := [d1, d2, d3] }
  | _ => none }
def DivStepsWrongFalsely : Prop := divStepsRow.holds Try.pinned (OpenSpec.ofChange divStepsWrong)

/-- 'cotterellaw05.DivRuns': WHATEVER THE INPUT: true; the input reads as it did. -/
def divRunsSpec : ChangeSpec := { name := "divRuns", fn := fun _ => fun
  | [d] => { results := [.lit (.bool true)], args := [d] }
  | _ => none }
def divRunsRow : OpenClaim := { program := "ytimcdkmbiggapaa", sum := "fde9f67039d9ed085e3e8a55a1077194dbe42aa5bbb4c2ac1e0dbea4929f430a", func := "cotterel/cotterellaw05.DivRuns", spec := "divRuns", apart := false }
def DivRunsSaid : Prop := divRunsRow.holds Try.pinned (OpenSpec.ofChange divRunsSpec)

/-- ITS FALSE NEIGHBOUR: 'it returns false'. Refute it at one input. -/
def divRunsWrong : ChangeSpec := { name := "divRuns", fn := fun _ => fun
  | [d] => { results := [.lit (.bool false)], args := [d] }
  | _ => none }
def DivRunsWrongFalsely : Prop := divRunsRow.holds Try.pinned (OpenSpec.ofChange divRunsWrong)

/-- 'cotterellaw05.DivDoes': WHATEVER THE INPUT: true; the input reads as it did. -/
def divDoesSpec : ChangeSpec := { name := "divDoes", fn := fun _ => fun
  | [d1, d2, d3] => { results := [.lit (.bool true)], args := [d1, d2, d3] }
  | _ => none }
def divDoesRow : OpenClaim := { program := "ytimcdkmbiggapaa", sum := "fde9f67039d9ed085e3e8a55a1077194dbe42aa5bbb4c2ac1e0dbea4929f430a", func := "cotterel/cotterellaw05.DivDoes", spec := "divDoes", apart := false }
def DivDoesSaid : Prop := divDoesRow.holds Try.pinned (OpenSpec.ofChange divDoesSpec)

/-- ITS FALSE NEIGHBOUR: 'it returns false'. Refute it at one input. -/
def divDoesWrong : ChangeSpec := { name := "divDoes", fn := fun _ => fun
  | [d1, d2, d3] => { results := [.lit (.bool false)], args := [d1, d2, d3] }
  | _ => none }
def DivDoesWrongFalsely : Prop := divDoesRow.holds Try.pinned (OpenSpec.ofChange divDoesWrong)

/-- 'cotterellaw05.DivBack': WHATEVER THE INPUT: true; the input reads as it did. -/
def divBackSpec : ChangeSpec := { name := "divBack", fn := fun _ => fun
  | [d1, d2] => { results := [.lit (.bool true)], args := [d1, d2] }
  | _ => none }
def divBackRow : OpenClaim := { program := "ytimcdkmbiggapaa", sum := "fde9f67039d9ed085e3e8a55a1077194dbe42aa5bbb4c2ac1e0dbea4929f430a", func := "cotterel/cotterellaw05.DivBack", spec := "divBack", apart := false }
def DivBackSaid : Prop := divBackRow.holds Try.pinned (OpenSpec.ofChange divBackSpec)

/-- ITS FALSE NEIGHBOUR: 'it returns false'. Refute it at one input. -/
def divBackWrong : ChangeSpec := { name := "divBack", fn := fun _ => fun
  | [d1, d2] => { results := [.lit (.bool false)], args := [d1, d2] }
  | _ => none }
def DivBackWrongFalsely : Prop := divBackRow.holds Try.pinned (OpenSpec.ofChange divBackWrong)

/-- 'cotterellaw05.DivParts': WHATEVER THE INPUT: true; the input reads as it did. -/
def divPartsSpec : ChangeSpec := { name := "divParts", fn := fun _ => fun
  | [d1, d2, d3] => { results := [.lit (.bool true)], args := [d1, d2, d3] }
  | _ => none }
def divPartsRow : OpenClaim := { program := "ytimcdkmbiggapaa", sum := "fde9f67039d9ed085e3e8a55a1077194dbe42aa5bbb4c2ac1e0dbea4929f430a", func := "cotterel/cotterellaw05.DivParts", spec := "divParts", apart := false }
def DivPartsSaid : Prop := divPartsRow.holds Try.pinned (OpenSpec.ofChange divPartsSpec)

/-- ITS FALSE NEIGHBOUR: 'it returns false'. Refute it at one input. -/
def divPartsWrong : ChangeSpec := { name := "divParts", fn := fun _ => fun
  | [d1, d2, d3] => { results := [.lit (.bool false)], args := [d1, d2, d3] }
  | _ => none }
def DivPartsWrongFalsely : Prop := divPartsRow.holds Try.pinned (OpenSpec.ofChange divPartsWrong)

/- THE SECOND FORM. 'bulk': how many values and letters a reading holds, each counted each time it is reached (what is shared counts as often as it is met; a slice's spare places count too). A statement '..UptoSaid' is the law's where the arguments, and the package variables that the reading takes, are together of bulk at most 1048576: NARROWER than '..Said'. Prove '..Said' where nothing that the law and all that it calls make is longer than what came in: it says more and counts as full. Else prove '..UptoSaid'. A law counts once. -/
mutual
def uptoBulk {H : Type} : DataW H → Nat
  | .lit (.string bytes) => bytes.length + 1
  | .lit _ => 1
  | .nil => 1
  | .ptr d => uptoBulk d + 1
  | .slice elems spare => uptoBulkAll elems + uptoBulkAll spare + 1
  | .agg parts => uptoBulkAll parts + 1
  | .iface _ d => uptoBulk d + 1
  | .map entries => uptoBulkEntries entries + 1
  | .held _ => 1
def uptoBulkAll {H : Type} : List (DataW H) → Nat
  | [] => 0
  | d :: r => uptoBulk d + uptoBulkAll r
def uptoBulkEntries {H : Type} : List (Lit × DataW H) → Nat
  | [] => 0
  | x :: r => uptoBulkEntry x + uptoBulkEntries r
def uptoBulkEntry {H : Type} : Lit × DataW H → Nat
  | (.string bytes, d) => bytes.length + uptoBulk d + 1
  | (_, d) => uptoBulk d + 1
 end
def uptoSmall : (H : Type) → List (DataW H) → Bool := fun _ ds => decide (uptoBulkAll ds ≤ 1048576)
def OpenSpec.upto (s : _root_.Go.ChangeSpec) : _root_.Go.OpenSpec := { _root_.Go.OpenSpec.ofChange s with cond := some uptoSmall }

/-- 'cotterellaw05.DivSteps', WHERE WHAT IT READS IS OF BULK AT MOST 1048576: true; the input reads as it did. -/
def divStepsUptoRow : OpenClaim := { program := "ytimcdkmbiggapaa", sum := "fde9f67039d9ed085e3e8a55a1077194dbe42aa5bbb4c2ac1e0dbea4929f430a", func := "cotterel/cotterellaw05.DivSteps", spec := "divSteps", apart := false, narrowed := true }
def DivStepsUptoSaid : Prop := divStepsUptoRow.holds Try.pinned (OpenSpec.upto divStepsSpec)

/-- 'cotterellaw05.DivRuns', WHERE WHAT IT READS IS OF BULK AT MOST 1048576: true; the input reads as it did. -/
def divRunsUptoRow : OpenClaim := { program := "ytimcdkmbiggapaa", sum := "fde9f67039d9ed085e3e8a55a1077194dbe42aa5bbb4c2ac1e0dbea4929f430a", func := "cotterel/cotterellaw05.DivRuns", spec := "divRuns", apart := false, narrowed := true }
def DivRunsUptoSaid : Prop := divRunsUptoRow.holds Try.pinned (OpenSpec.upto divRunsSpec)

/-- 'cotterellaw05.DivDoes', WHERE WHAT IT READS IS OF BULK AT MOST 1048576: true; the input reads as it did. -/
def divDoesUptoRow : OpenClaim := { program := "ytimcdkmbiggapaa", sum := "fde9f67039d9ed085e3e8a55a1077194dbe42aa5bbb4c2ac1e0dbea4929f430a", func := "cotterel/cotterellaw05.DivDoes", spec := "divDoes", apart := false, narrowed := true }
def DivDoesUptoSaid : Prop := divDoesUptoRow.holds Try.pinned (OpenSpec.upto divDoesSpec)

/-- 'cotterellaw05.DivBack', WHERE WHAT IT READS IS OF BULK AT MOST 1048576: true; the input reads as it did. -/
def divBackUptoRow : OpenClaim := { program := "ytimcdkmbiggapaa", sum := "fde9f67039d9ed085e3e8a55a1077194dbe42aa5bbb4c2ac1e0dbea4929f430a", func := "cotterel/cotterellaw05.DivBack", spec := "divBack", apart := false, narrowed := true }
def DivBackUptoSaid : Prop := divBackUptoRow.holds Try.pinned (OpenSpec.upto divBackSpec)

/-- 'cotterellaw05.DivParts', WHERE WHAT IT READS IS OF BULK AT MOST 1048576: true; the input reads as it did. -/
def divPartsUptoRow : OpenClaim := { program := "ytimcdkmbiggapaa", sum := "fde9f67039d9ed085e3e8a55a1077194dbe42aa5bbb4c2ac1e0dbea4929f430a", func := "cotterel/cotterellaw05.DivParts", spec := "divParts", apart := false, narrowed := true }
def DivPartsUptoSaid : Prop := divPartsUptoRow.holds Try.pinned (OpenSpec.upto divPartsSpec)

end Rows
end Go.Proofs.Ytimcdkmbiggapaa
