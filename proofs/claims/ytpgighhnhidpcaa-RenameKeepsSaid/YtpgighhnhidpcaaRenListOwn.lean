/- The list of a ring lies in memory that the call has made. -/
import Derived.Test.YtpgighhnhidpcaaFreelRight
set_option linter.unusedSimpArgs false
set_option linter.unusedVariables false
namespace Go.Proofs.Ytpgighhnhidpcaa.My
open Go.RowKit
theorem ring_le2 (xs : List Int) (n : Nat) (h N : Int) : (ringL xs n h N).length ≤ 96 := by
  cases hs : soundB n h N with
  | false => simp [ringL, hs]
  | true =>
    rw [ring_len hs]
    obtain ⟨h1, _, _, _, h5⟩ := sound_iff.1 hs
    omega
theorem list_own (A : Option Addr) (n c : Nat) (h N : Int) (xs : List Int) (w : World) (hr : RdA .i64 w A n xs) (hnm : n ≤ 9223372036854775807) : Calls Try.prog 23 #[.agg #[.slice A n c, .int .i64 h, .int .i64 N]] w fun e w' => (∃ v, e = .returned v ∧ OwnI w' w.heap.size v (ringL xs n h N)) ∧ Below w.heap.size w w' := by
  cases hs : soundB n h N with
  | false =>
    have e : ringL xs n h N = [] := by unfold ringL; rw [hs]; rfl
    rw [e]
    exact list_no A n c h N w hnm hs
  | true =>
    by_cases hn : n = 0
    · obtain ⟨a1, a2, a3, a4, a5⟩ := sound_iff.1 hs
      have e1 : h = 0 := by omega
      have e2 : N = 0 := by omega
      subst hn e1 e2
      rw [ring_zero]
      exact list_zero A c w
    · obtain ⟨b, off, rfl, hc⟩ := hr.2 (by omega)
      exact list_yes b off n c h N xs w hc (by omega) hs
theorem rlist_own (A : Option Addr) (n c : Nat) (h N : Int) (xs : List Int) (w : World) (hr : RdA .i64 w A n xs) (hnm : n ≤ 9223372036854775807) : Calls Try.prog 58 #[.agg #[.slice A n c, .int .i64 h, .int .i64 N]] w fun e w' => (∃ v, e = .returned v ∧ OwnI w' w.heap.size v (ringL xs n h N)) ∧ Below w.heap.size w w' := by
  cases hs : soundB n h N with
  | false =>
    have e : ringL xs n h N = [] := by unfold ringL; rw [hs]; rfl
    rw [e]
    exact rlist_no A n c h N w hnm hs
  | true =>
    by_cases hn : n = 0
    · obtain ⟨a1, a2, a3, a4, a5⟩ := sound_iff.1 hs
      have e1 : h = 0 := by omega
      have e2 : N = 0 := by omega
      subst hn e1 e2
      rw [ring_zero]
      exact rlist_zero A c w
    · obtain ⟨b, off, rfl, hc⟩ := hr.2 (by omega)
      exact rlist_yes b off n c h N xs w hc (by omega) hs
theorem list_fresh (A : Option Addr) (n c : Nat) (h N : Int) (xs : List Int) (w : World) (hr : RdA .i64 w A n xs) (hnm : n ≤ 9223372036854775807) : Calls Try.prog 23 #[.agg #[.slice A n c, .int .i64 h, .int .i64 N]] w fun e w' => ∃ A c, e = .returned (.slice A (ringL xs n h N).length c) ∧ RdA .i64 w' A (ringL xs n h N).length (ringL xs n h N) ∧ Fresh w.heap.size A ∧ Below w.heap.size w w' := by
  refine (list_own A n c h N xs w hr hnm).mono ?_
  rintro e w' ⟨⟨v, rfl, ho⟩, hb⟩
  obtain ⟨A, c, rfl, h1, h2⟩ := RdA.of_own ho
  exact ⟨A, c, rfl, h1, h2, hb⟩
end Go.Proofs.Ytpgighhnhidpcaa.My
