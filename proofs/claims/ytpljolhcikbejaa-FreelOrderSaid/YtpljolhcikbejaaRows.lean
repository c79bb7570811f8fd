/-
  No cell of these rows narrows 'for every input' (looked for: loops, veiled, ifaces, maps, wideKeys, modest, calm, conditions, laid).
  DERIVED. THE GIVEN ROWS OF THIS SEAT. 3 by the template 'for every input the law returns true; each argument reads behind the call as it read before'; 0 by the template 'total and deterministic' (their statements: YtpljolhcikbejaaTotals.lean).
  GIVEN WITH THE SEED: the statements are not yours to turn. If you find one false, say at which input.
  Laid BY PROGRAM, IN A SANDBOX (cutbox-rows.mjs): the forced cells as the released guide's own fill.sh prints them over the translation 3f483be48bc210fd… (all of the seat's roots in one cut). By AI agents, Wed Nov 11 2026. No macro, syntax, notation, axiom, sorry.
-/
import Derived.Test.YtpljolhcikbejaaChecked
import GoSem.Claim
import GoSem.ClaimJoined
import GoSem.ClaimMapViews
import Derived.JoinedTies
import Derived.KernelRfl
namespace Go.Proofs.Ytpljolhcikbejaa
/- THE CELL 'sum', in the pinned program and in every row, IS THE sha256 OF THE DUMP (.gsa) THAT YtpljolhcikbejaaProg.lean LOADS. Nothing in Lean hashes anything: it is a label: what it is worth is what the hold of that sum in a sandbox is worth. -/
noncomputable def Try.pinned : Pinned := { name := "ytpljolhcikbejaa", sum := "3f483be48bc210fdaee180150ac75dd4638eb0b62edeeea8887c116debe560b1", checked := Try.checked }
namespace Rows
def none {H : Type} : Left H := { results := [], args := [] }

/-- 'cotterellaw25.FreelTakes': WHATEVER THE INPUT: true; the input reads as it did. -/
def freelTakesSpec : ChangeSpec := { name := "freelTakes", fn := fun _ => fun
  | [d1, d2] => { results := [.lit (.bool true)], args := [d1, d2] }
  | _ => none }
def freelTakesRow : OpenClaim := { program := "ytpljolhcikbejaa", sum := "3f483be48bc210fdaee180150ac75dd4638eb0b62edeeea8887c116debe560b1", func := "cotterel/cotterellaw25.FreelTakes", spec := "freelTakes", unfollowed := true, recurses := true, apart := false }
def FreelTakesSaid : Prop := freelTakesRow.holds Try.pinned (OpenSpec.ofChange freelTakesSpec)

/-- ITS FALSE NEIGHBOUR: 'it returns false'. Refute it at one input. -/
def freelTakesWrong : ChangeSpec := { name := "freelTakes", fn := fun _ => fun
  | [d1, d2] => { results := [.lit (.bool false)], args := [d1, d2] }
  | _ => none }
def FreelTakesWrongFalsely : Prop := freelTakesRow.holds Try.pinned (OpenSpec.ofChange freelTakesWrong)

/-- 'cotterellaw25.FreelOrder': WHATEVER THE INPUT: true; the input reads as it did. -/
def freelOrderSpec : ChangeSpec := { name := "freelOrder", fn := fun _ => fun
  | [d1, d2] => { results := [.lit (.bool true)], args := [d1, d2] }
  | _ => none }
def freelOrderRow : OpenClaim := { program := "ytpljolhcikbejaa", sum := "3f483be48bc210fdaee180150ac75dd4638eb0b62edeeea8887c116debe560b1", func := "cotterel/cotterellaw25.FreelOrder", spec := "freelOrder", unfollowed := true, recurses := true, apart := false }
def FreelOrderSaid : Prop := freelOrderRow.holds Try.pinned (OpenSpec.ofChange freelOrderSpec)

/-- ITS FALSE NEIGHBOUR: 'it returns false'. Refute it at one input. -/
def freelOrderWrong : ChangeSpec := { name := "freelOrder", fn := fun _ => fun
  | [d1, d2] => { results := [.lit (.bool false)], args := [d1, d2] }
  | _ => none }
def FreelOrderWrongFalsely : Prop := freelOrderRow.holds Try.pinned (OpenSpec.ofChange freelOrderWrong)

/-- 'cotterellaw25.FreelMakes': WHATEVER THE INPUT: true; the input reads as it did. -/
def freelMakesSpec : ChangeSpec := { name := "freelMakes", fn := fun _ => fun
  | [d1, d2, d3] => { results := [.lit (.bool true)], args := [d1, d2, d3] }
  | _ => none }
def freelMakesRow : OpenClaim := { program := "ytpljolhcikbejaa", sum := "3f483be48bc210fdaee180150ac75dd4638eb0b62edeeea8887c116debe560b1", func := "cotterel/cotterellaw25.FreelMakes", spec := "freelMakes", unfollowed := true, recurses := true, apart := false }
def FreelMakesSaid : Prop := freelMakesRow.holds Try.pinned (OpenSpec.ofChange freelMakesSpec)

/-- ITS FALSE NEIGHBOUR: 'it returns false'. Refute it at one input. -/
def freelMakesWrong : ChangeSpec := { name := "freelMakes", fn := fun _ => fun
  | [d1, d2, d3] => { results := [.lit (.bool false)], args := [d1, d2, d3] }
  | _ => none }
def FreelMakesWrongFalsely : Prop := freelMakesRow.holds Try.pinned (OpenSpec.ofChange freelMakesWrong)

/- THE SECOND FORM. 'bulk': how many values and letters a reading holds, each counted each time it is reached (what is shared counts as often as it is met; a slice's spare places count too). A statement '..UptoSaid' is the law's where the arguments, and the package variables that the reading takes, are together of bulk at most 1048576: NARROWER than '..Said'. Prove '..Said' where nothing that the law and all that it calls make is longer than what came in: it says more and counts as full. Else prove '..UptoSaid'. A law counts once. -/
mutual
def uptoBulk {H : Type} : DataW H → Nat
  | .lit (.string bytes) => bytes.length + 1
  | .lit _ => 1
  | .nil => 1
  | .ptr d => uptoBulk d + 1
  | .slice elems spare => uptoBulkAll elems + uptoBulkAll spare + 1
  | .agg parts => uptoBulkAll parts + 1
  | .iface _ d => uptoBulk d + 1
  | .map entries => uptoBulkEntries entries + 1
  | .held _ => 1
def uptoBulkAll {H : Type} : List (DataW H) → Nat
  | [] => 0
  | d :: r => uptoBulk d + uptoBulkAll r
def uptoBulkEntries {H : Type} : List (Lit × DataW H) → Nat
  | [] => 0
  | x :: r => uptoBulkEntry x + uptoBulkEntries r
def uptoBulkEntry {H : Type} : Lit × DataW H → Nat
  | (.string bytes, d) => bytes.length + uptoBulk d + 1
  | (_, d) => uptoBulk d + 1
 end
def uptoSmall : (H : Type) → List (DataW H) → Bool := fun _ ds => decide (uptoBulkAll ds ≤ 1048576)
def OpenSpec.upto (s : _root_.Go.ChangeSpec) : _root_.Go.OpenSpec := { _root_.Go.OpenSpec.ofChange s with cond := some uptoSmall }

/-- 'cotterellaw25.FreelTakes', WHERE WHAT IT READS IS OF BULK AT MOST 1048576: true; the input reads as it did. -/
def freelTakesUptoRow : OpenClaim := { program := "ytpljolhcikbejaa", sum := "3f483be48bc210fdaee180150ac75dd4638eb0b62edeeea8887c116debe560b1", func := "cotterel/cotterellaw25.FreelTakes", spec := "freelTakes", unfollowed := true, recurses := true, apart := false, narrowed := true }
def FreelTakesUptoSaid : Prop := freelTakesUptoRow.holds Try.pinned (OpenSpec.upto freelTakesSpec)

/-- 'cotterellaw25.FreelOrder', WHERE WHAT IT READS IS OF BULK AT MOST 1048576: true; the input reads as it did. -/
def freelOrderUptoRow : OpenClaim := { program := "ytpljolhcikbejaa", sum := "3f483be48bc210fdaee180150ac75dd4638eb0b62edeeea8887c116debe560b1", func := "cotterel/cotterellaw25.FreelOrder", spec := "freelOrder", unfollowed := true, recurses := true, apart := false, narrowed := true }
def FreelOrderUptoSaid : Prop := freelOrderUptoRow.holds Try.pinned (OpenSpec.upto freelOrderSpec)

/-- 'cotterellaw25.FreelMakes', WHERE WHAT IT READS IS OF BULK AT MOST 1048576: true; the input reads as it did. -/
def freelMakesUptoRow : OpenClaim := { program := "ytpljolhcikbejaa", sum := "3f483be48bc210fdaee180150ac75dd4638eb0b62edeeea8887c116debe560b1", func := "cotterel/cotterellaw25.FreelMakes", spec := "freelMakes", unfollowed := true, recurses := true, apart := false, narrowed := true }
def FreelMakesUptoSaid : Prop := freelMakesUptoRow.holds Try.pinned (OpenSpec.upto freelMakesSpec)

end Rows
end Go.Proofs.Ytpljolhcikbejaa
