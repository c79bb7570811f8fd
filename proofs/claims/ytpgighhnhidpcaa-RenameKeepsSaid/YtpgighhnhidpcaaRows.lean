/-
  No cell of these rows narrows 'for every input' (looked for: loops, veiled, ifaces, maps, wideKeys, modest, calm, conditions, laid).
  DERIVED. THE GIVEN ROWS OF THIS SEAT. 5 by the template 'for every input the law returns true; each argument reads behind the call as it read before'; 0 by the template 'total and deterministic' (their statements: YtpgighhnhidpcaaTotals.lean).
  GIVEN WITH THE SEED: the statements are not yours to turn. If you find one false, say at which input.
  Laid BY PROGRAM, IN A SANDBOX (cutbox-rows.mjs): the forced cells as the released guide's own fill.sh prints them over the translation 1fb8d166f96dafbf… (all of the seat's roots in one cut). By AI agents, Wed Nov 11 2026. No macro, syntax, notation, axiom, sorry.
-/
import Derived.Test.YtpgighhnhidpcaaChecked
import GoSem.Claim
import GoSem.ClaimJoined
import GoSem.ClaimMapViews
import Derived.JoinedTies
import Derived.KernelRfl
namespace Go.Proofs.Ytpgighhnhidpcaa
/- THE CELL 'sum', in the pinned program and in every row, IS THE sha256 OF THE DUMP (.gsa) THAT YtpgighhnhidpcaaProg.lean LOADS. Nothing in Lean hashes anything: it is a label: what it is worth is what the hold of that sum in a sandbox is worth. -/
noncomputable def Try.pinned : Pinned := { name := "ytpgighhnhidpcaa", sum := "1fb8d166f96dafbf81dfb695a2b87db0a6b486d61aa8d25b5a1bf07de7109b2f", checked := Try.checked }
namespace Rows
def none {H : Type} : Left H := { results := [], args := [] }

/-- 'cotterellaw28.RenameOne': WHATEVER THE INPUT: true; the input reads as it did. -/
def renameOneSpec : ChangeSpec := { name := "renameOne", fn := fun _ => fun
  | [d1, d2, d3] => { results := [.lit (.bool true)], args := [d1, d2, d3] }
  | _ => none }
def renameOneRow : OpenClaim := { program := "ytpgighhnhidpcaa", sum := "1fb8d166f96dafbf81dfb695a2b87db0a6b486d61aa8d25b5a1bf07de7109b2f", func := "cotterel/cotterellaw28.RenameOne", spec := "renameOne", unfollowed := true, recurses := true, apart := false }
def RenameOneSaid : Prop := renameOneRow.holds Try.pinned (OpenSpec.ofChange renameOneSpec)

/-- ITS FALSE NEIGHBOUR: 'it returns false'. Refute it at one input. -/
def renameOneWrong : ChangeSpec := { name := "renameOne", fn := fun _ => fun
  | [d1, d2, d3] => { results := [.lit (.bool false)], args := [d1, d2, d3] }
  | _ => none }
def RenameOneWrongFalsely : Prop := renameOneRow.holds Try.pinned (OpenSpec.ofChange renameOneWrong)

/-- 'cotterellaw28.RenameLets': WHATEVER THE INPUT: true; the input reads as it did. -/
def renameLetsSpec : ChangeSpec := { name := "renameLets", fn := fun _ => fun
  | [d1, d2] => { results := [.lit (.bool true)], args := [d1, d2] }
  | _ => none }
def renameLetsRow : OpenClaim := { program := "ytpgighhnhidpcaa", sum := "1fb8d166f96dafbf81dfb695a2b87db0a6b486d61aa8d25b5a1bf07de7109b2f", func := "cotterel/cotterellaw28.RenameLets", spec := "renameLets", unfollowed := true, recurses := true, apart := false }
def RenameLetsSaid : Prop := renameLetsRow.holds Try.pinned (OpenSpec.ofChange renameLetsSpec)

/-- ITS FALSE NEIGHBOUR: 'it returns false'. Refute it at one input. -/
def renameLetsWrong : ChangeSpec := { name := "renameLets", fn := fun _ => fun
  | [d1, d2] => { results := [.lit (.bool false)], args := [d1, d2] }
  | _ => none }
def RenameLetsWrongFalsely : Prop := renameLetsRow.holds Try.pinned (OpenSpec.ofChange renameLetsWrong)

/-- 'cotterellaw28.RenameBack': WHATEVER THE INPUT: true; the input reads as it did. -/
def renameBackSpec : ChangeSpec := { name := "renameBack", fn := fun _ => fun
  | [d1, d2, d3] => { results := [.lit (.bool true)], args := [d1, d2, d3] }
  | _ => none }
def renameBackRow : OpenClaim := { program := "ytpgighhnhidpcaa", sum := "1fb8d166f96dafbf81dfb695a2b87db0a6b486d61aa8d25b5a1bf07de7109b2f", func := "cotterel/cotterellaw28.RenameBack", spec := "renameBack", unfollowed := true, recurses := true, apart := false }
def RenameBackSaid : Prop := renameBackRow.holds Try.pinned (OpenSpec.ofChange renameBackSpec)

/-- ITS FALSE NEIGHBOUR: 'it returns false'. Refute it at one input. -/
def renameBackWrong : ChangeSpec := { name := "renameBack", fn := fun _ => fun
  | [d1, d2, d3] => { results := [.lit (.bool false)], args := [d1, d2, d3] }
  | _ => none }
def RenameBackWrongFalsely : Prop := renameBackRow.holds Try.pinned (OpenSpec.ofChange renameBackWrong)

/-- 'cotterellaw28.RenameRight': WHATEVER THE INPUT: true; the input reads as it did. -/
def renameRightSpec : ChangeSpec := { name := "renameRight", fn := fun _ => fun
  | [d1, d2, d3] => { results := [.lit (.bool true)], args := [d1, d2, d3] }
  | _ => none }
def renameRightRow : OpenClaim := { program := "ytpgighhnhidpcaa", sum := "1fb8d166f96dafbf81dfb695a2b87db0a6b486d61aa8d25b5a1bf07de7109b2f", func := "cotterel/cotterellaw28.RenameRight", spec := "renameRight", unfollowed := true, recurses := true, apart := false }
def RenameRightSaid : Prop := renameRightRow.holds Try.pinned (OpenSpec.ofChange renameRightSpec)

/-- ITS FALSE NEIGHBOUR: 'it returns false'. Refute it at one input. -/
def renameRightWrong : ChangeSpec := { name := "renameRight", fn := fun _ => fun
  | [d1, d2, d3] => { results := [.lit (.bool false)], args := [d1, d2, d3] }
  | _ => none }
def RenameRightWrongFalsely : Prop := renameRightRow.holds Try.pinned (OpenSpec.ofChange renameRightWrong)

/-- 'cotterellaw28.RenameKeeps': WHATEVER THE INPUT: true; the input reads as it did. -/
def renameKeepsSpec : ChangeSpec := { name := "renameKeeps", fn := fun _ => fun
  | [d1, d2] => { results := [.lit (.bool true)], args := [d1, d2] }
  | _ => none }
def renameKeepsRow : OpenClaim := { program := "ytpgighhnhidpcaa", sum := "1fb8d166f96dafbf81dfb695a2b87db0a6b486d61aa8d25b5a1bf07de7109b2f", func := "cotterel/cotterellaw28.RenameKeeps", spec := "renameKeeps", unfollowed := true, recurses := true, apart := false }
def RenameKeepsSaid : Prop := renameKeepsRow.holds Try.pinned (OpenSpec.ofChange renameKeepsSpec)

/-- ITS FALSE NEIGHBOUR: 'it returns false'. Refute it at one input. -/
def renameKeepsWrong : ChangeSpec := { name := "renameKeeps", fn := fun _ => fun
  | [d1, d2] => { results := [.lit (.bool false)], args := [d1, d2] }
  | _ => none }
def RenameKeepsWrongFalsely : Prop := renameKeepsRow.holds Try.pinned (OpenSpec.ofChange renameKeepsWrong)

/- THE SECOND FORM. 'bulk': how many values and letters a reading holds, each counted each time it is reached (what is shared counts as often as it is met; a slice's spare places count too). A statement '..UptoSaid' is the law's where the arguments, and the package variables that the reading takes, are together of bulk at most 1048576: NARROWER than '..Said'. Prove '..Said' where nothing that the law and all that it calls make is longer than what came in: it says more and counts as full. Else prove '..UptoSaid'. A law counts once. -/
mutual
def uptoBulk {H : Type} : DataW H → Nat
  | .lit (.string bytes) => bytes.length + 1
  | .lit _ => 1
  | .nil => 1
  | .ptr d => uptoBulk d + 1
  | .slice elems spare => uptoBulkAll elems + uptoBulkAll spare + 1
  | .agg parts => uptoBulkAll parts + 1
  | .iface _ d => uptoBulk d + 1
  | .map entries => uptoBulkEntries entries + 1
  | .held _ => 1
def uptoBulkAll {H : Type} : List (DataW H) → Nat
  | [] => 0
  | d :: r => uptoBulk d + uptoBulkAll r
def uptoBulkEntries {H : Type} : List (Lit × DataW H) → Nat
  | [] => 0
  | x :: r => uptoBulkEntry x + uptoBulkEntries r
def uptoBulkEntry {H : Type} : Lit × DataW H → Nat
  | (.string bytes, d) => bytes.length + uptoBulk d + 1
  | (_, d) => uptoBulk d + 1
 end
def uptoSmall : (H : Type) → List (DataW H) → Bool := fun _ ds => decide (uptoBulkAll ds ≤ 1048576)
def OpenSpec.upto (s : _root_.Go.ChangeSpec) : _root_.Go.OpenSpec := { _root_.Go.OpenSpec.ofChange s with cond := some uptoSmall }

/-- 'cotterellaw28.RenameOne', WHERE WHAT IT READS IS OF BULK AT MOST 1048576: true; the input reads as it did. -/
def renameOneUptoRow : OpenClaim := { program := "ytpgighhnhidpcaa", sum := "1fb8d166f96dafbf81dfb695a2b87db0a6b486d61aa8d25b5a1bf07de7109b2f", func := "cotterel/cotterellaw28.RenameOne", spec := "renameOne", unfollowed := true, recurses := true, apart := false, narrowed := true }
def RenameOneUptoSaid : Prop := renameOneUptoRow.holds Try.pinned (OpenSpec.upto renameOneSpec)

/-- 'cotterellaw28.RenameLets', WHERE WHAT IT READS IS OF BULK AT MOST 1048576: true; the input reads as it did. -/
def renameLetsUptoRow : OpenClaim := { program := "ytpgighhnhidpcaa", sum := "1fb8d166f96dafbf81dfb695a2b87db0a6b486d61aa8d25b5a1bf07de7109b2f", func := "cotterel/cotterellaw28.RenameLets", spec := "renameLets", unfollowed := true, recurses := true, apart := false, narrowed := true }
def RenameLetsUptoSaid : Prop := renameLetsUptoRow.holds Try.pinned (OpenSpec.upto renameLetsSpec)

/-- 'cotterellaw28.RenameBack', WHERE WHAT IT READS IS OF BULK AT MOST 1048576: true; the input reads as it did. -/
def renameBackUptoRow : OpenClaim := { program := "ytpgighhnhidpcaa", sum := "1fb8d166f96dafbf81dfb695a2b87db0a6b486d61aa8d25b5a1bf07de7109b2f", func := "cotterel/cotterellaw28.RenameBack", spec := "renameBack", unfollowed := true, recurses := true, apart := false, narrowed := true }
def RenameBackUptoSaid : Prop := renameBackUptoRow.holds Try.pinned (OpenSpec.upto renameBackSpec)

/-- 'cotterellaw28.RenameRight', WHERE WHAT IT READS IS OF BULK AT MOST 1048576: true; the input reads as it did. -/
def renameRightUptoRow : OpenClaim := { program := "ytpgighhnhidpcaa", sum := "1fb8d166f96dafbf81dfb695a2b87db0a6b486d61aa8d25b5a1bf07de7109b2f", func := "cotterel/cotterellaw28.RenameRight", spec := "renameRight", unfollowed := true, recurses := true, apart := false, narrowed := true }
def RenameRightUptoSaid : Prop := renameRightUptoRow.holds Try.pinned (OpenSpec.upto renameRightSpec)

/-- 'cotterellaw28.RenameKeeps', WHERE WHAT IT READS IS OF BULK AT MOST 1048576: true; the input reads as it did. -/
def renameKeepsUptoRow : OpenClaim := { program := "ytpgighhnhidpcaa", sum := "1fb8d166f96dafbf81dfb695a2b87db0a6b486d61aa8d25b5a1bf07de7109b2f", func := "cotterel/cotterellaw28.RenameKeeps", spec := "renameKeeps", unfollowed := true, recurses := true, apart := false, narrowed := true }
def RenameKeepsUptoSaid : Prop := renameKeepsUptoRow.holds Try.pinned (OpenSpec.upto renameKeepsSpec)

end Rows
end Go.Proofs.Ytpgighhnhidpcaa
