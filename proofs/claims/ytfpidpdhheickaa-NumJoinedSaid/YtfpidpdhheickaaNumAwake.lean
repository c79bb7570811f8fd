/- Walk over the chapter's examples. -/
import Derived.Test.YtfpidpdhheickaaNumWords
set_option linter.unusedVariables false
namespace Go.Proofs.Ytfpidpdhheickaa.My
open Go.RowKit
theorem awake_p1 (w : World) : Calls Try.prog 14 #[.string ⟨#[48, 120, 49, 102]⟩] w fun e w' => e = .returned (.tuple #[.int .i64 31, .int .i64 0]) ∧ Below w.heap.size w w' := by
  have h := parse_any ⟨#[48, 120, 49, 102]⟩ w (by decide)
  rw [show parseV ⟨#[48, 120, 49, 102]⟩ = (31, 0) by decide +kernel] at h
  exact h
theorem awake_p2 (w : World) : Calls Try.prog 14 #[.string ⟨#[48, 48, 55]⟩] w fun e w' => e = .returned (.tuple #[.int .i64 0, .int .i64 2]) ∧ Below w.heap.size w w' := by
  have h := parse_any ⟨#[48, 48, 55]⟩ w (by decide)
  rw [show parseV ⟨#[48, 48, 55]⟩ = (0, 2) by decide +kernel] at h
  exact h
theorem awake_d (w : World) : Calls Try.prog 9 #[.int .i64 (-40)] w fun e w' => e = .returned (.string ⟨#[45, 52, 48]⟩) ∧ Below w.heap.size w w' := by
  have h := dec_any2 (-40) w (by decide) (by decide)
  have e : decL (-40) = [45, 52, 48] := by
    unfold decL
    rw [if_pos (by decide), show (-40 : Int).natAbs = 40 by decide, digP_more (by decide), digP_one (by decide)]
    decide
  rw [e] at h
  exact h
theorem awake_h (w : World) : Calls Try.prog 11 #[.int .u32 48879] w fun e w' => e = .returned (.string ⟨#[48, 48, 48, 48, 98, 101, 101, 102]⟩) ∧ Below w.heap.size w w' := by
  have h := hex_any 48879 w (by decide)
  rw [show hexL 48879 = [48, 48, 48, 48, 98, 101, 101, 102] by decide +kernel] at h
  exact h
theorem awake_w (w : World) : Calls Try.prog 17 #[.string ⟨#[97, 100, 100, 32, 114, 49, 44, 32, 114, 50]⟩] w fun e w' => (∃ A c, e = .returned (.slice A 3 c)) ∧ Below w.heap.size w w' := by
  refine (words_any ⟨#[97, 100, 100, 32, 114, 49, 44, 32, 114, 50]⟩ w (by decide)).mono ?_
  rintro e w' ⟨⟨v, rfl, ho⟩, hb⟩
  obtain ⟨A, c, rfl⟩ := own_val ho
  rw [show (wordsL ⟨#[97, 100, 100, 32, 114, 49, 44, 32, 114, 50]⟩).length = 3 by decide +kernel]
  exact ⟨⟨A, c, rfl⟩, hb⟩
set_option maxHeartbeats 400000 in
theorem awake_any (w : World) : Calls Try.prog 13 #[] w fun e w' => e = .returned (.bool true) ∧ Below w.heap.size w w' := by
  have HB := startB w
  have A1 := Lib.hid awake_p1
  have A2 := Lib.hid awake_p2
  go_enter Try.func13, Try.ntmps13
  go_wp2_with (first | (go_at_call 14; refine (A1.out _).mono ?_; clear A1; rintro e w1 ⟨rfl, hb⟩; replace HB := keepB HB hb; clear hb) | (go_at_call 14; refine (A2.out _).mono ?_; rintro e w1 ⟨rfl, hb⟩; replace HB := keepB HB hb; clear hb) | (go_at_call 9; refine (awake_d _).mono ?_; rintro e w1 ⟨rfl, hb⟩; replace HB := keepB HB hb; clear hb) | (go_at_call 11; refine (awake_h _).mono ?_; rintro e w1 ⟨rfl, hb⟩; replace HB := keepB HB hb; clear hb) | (go_at_call 17; refine (awake_w _).mono ?_; rintro e w1 ⟨⟨A, c, rfl⟩, hb⟩; replace HB := keepB HB hb; clear hb))
  go_ret
  exact ⟨rfl, HB.out.1⟩
end Go.Proofs.Ytfpidpdhheickaa.My
