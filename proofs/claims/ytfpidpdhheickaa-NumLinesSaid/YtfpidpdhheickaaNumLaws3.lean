/- The law of lines. -/
import Derived.Test.YtfpidpdhheickaaNumRLines
import Derived.Test.YtfpidpdhheickaaNumLaws2
import Derived.BigQuiet
set_option linter.unusedVariables false
namespace Go.Proofs.Ytfpidpdhheickaa.My
open Go.RowKit
theorem linesR_len (s : ByteArray) : ∀ (b i F : Nat), (linesR s b i F).length ≤ b
  | 0, _, _ => Nat.le_refl _
  | b + 1, i, F => by
    have h1 := linesR_len s b (i + 1) (i + 1)
    have h2 := linesR_len s b (i + 1) F
    unfold linesR
    split
    · rw [List.length_cons]; omega
    · omega
theorem linesV_len (s : ByteArray) : (linesV s).1.length ≤ s.size := by
  unfold linesV
  split
  · exact Nat.zero_le _
  · split
    · exact Nat.zero_le _
    · exact linesR_len s s.size 0 0
theorem nlines_any (s : ByteArray) (w : World) (hm : s.size ≤ maxLen) : Calls Try.prog 7 #[.string s] w fun e w' => e = .returned (.bool true) ∧ Below w.heap.size w w' := by
  have HB := startB w
  have hm2 : s.size ≤ 9223372036854775807 := hm
  clear hm
  by_cases h : 70000 < s.size
  · go_enter Try.func7, Try.ntmps7
    go_wp2_with (go_at_call 13; refine (awake_any _).mono ?_; rintro e w1 ⟨rfl, hb⟩; replace HB := keepB HB hb; clear hb)
    go_ret
    exact ⟨rfl, HB.out.1⟩
  · have hl := linesV_len s
    obtain ⟨⟨WS, q⟩, hW⟩ : ∃ P, linesV s = P := ⟨_, rfl⟩
    rw [hW] at hl
    have hl2 : WS.length ≤ 9223372036854775807 := by have : WS.length ≤ s.size := hl; omega
    have a1 : ∀ w, Calls Try.prog 19 #[.string s] w fun e w' => (∃ v, e = .returned (.tuple #[v, .int .i64 q]) ∧ Own w' w.heap.size v WS) ∧ Below w.heap.size w w' := fun w => by have := lines_any s w (by omega); rw [hW] at this; exact this
    have a2 : ∀ w, Calls Try.prog 20 #[.string s] w fun e w' => (∃ v, e = .returned (.tuple #[v, .int .i64 q]) ∧ Own w' w.heap.size v WS) ∧ Below w.heap.size w w' := fun w => by have := rlines_any s w (by omega); rw [hW] at this; exact this
    have A1 := Lib.hid a1
    have A2 := Lib.hid a2
    have e1 : (q == q) = true := beq_self_eq_true _
    clear a1 a2 hW hl
    go_enter Try.func7, Try.ntmps7
    go_wp2_with (first | (go_at_call 19; refine (A1.out _).mono ?_; rintro e w1 ⟨⟨v, rfl, ho⟩, hb⟩; replace HB := keepB HB hb; obtain ⟨A, c, rfl, hr⟩ := RdS.of_own ho; have HR := Lib.hid hr; clear hb ho hr) | (go_at_call 20; refine (A2.out _).mono ?_; rintro e w2 ⟨⟨v, rfl, ho⟩, hb⟩; replace HB := keepB HB hb; obtain ⟨C, d, rfl, hr⟩ := RdS.of_own ho; have HC := Lib.hid hr; replace HR := Lib.hid (HR.out.below hb); clear hb ho hr) | (go_at_call 16; refine (texts_any _ _ _ _ WS _ HR.out HC.out hl2).mono ?_; rintro e w1 ⟨rfl, hb⟩; replace HB := keepB HB hb; clear hb) | (go_at_call 13; refine (awake_any _).mono ?_; rintro e w1 ⟨rfl, hb⟩; replace HB := keepB HB hb; clear hb))
    go_ret
    exact ⟨rfl, HB.out.1⟩
end Go.Proofs.Ytfpidpdhheickaa.My
