/- Lists of any ring. -/
import Derived.Test.YtpgighhnhidpcaaFreelMake
set_option linter.unusedSimpArgs false
set_option linter.unusedVariables false
namespace Go.Proofs.Ytpgighhnhidpcaa.My
open Go.RowKit
theorem list_some (A : Option Addr) (n c : Nat) (h N : Int) (xs : List Int) (w : World) (hr : RdA .i64 w A n xs) (hn0 : 0 < n) (hs : soundB n h N = true) : Calls Try.prog 23 #[.agg #[.slice A n c, .int .i64 h, .int .i64 N]] w fun e w' => (∃ v, e = .returned v ∧ OwnI w' w.heap.size v (ringL xs n h N)) ∧ Below w.heap.size w w' := by
  obtain ⟨b, off, rfl, hc⟩ := hr.2 hn0
  exact list_yes b off n c h N xs w hc hn0 hs
theorem own_rd {w : World} {B : Nat} {v : Value} {xs : List Int} (h : OwnI w B v xs) : ∃ A c, v = .slice A xs.length c ∧ RdA .i64 w A xs.length xs := by
  obtain ⟨A, c, h1, h2, _⟩ := RdA.of_own h
  exact ⟨A, c, h1, h2⟩
end Go.Proofs.Ytpgighhnhidpcaa.My
