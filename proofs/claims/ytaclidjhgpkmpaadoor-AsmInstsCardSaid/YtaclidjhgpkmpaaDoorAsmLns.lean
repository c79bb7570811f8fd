/- Walk: the lines of any text. -/
import Derived.Test.YtaclidjhgpkmpaaDoorAsmWds
set_option linter.unusedVariables false
namespace Go.Proofs.YtaclidjhgpkmpaaDoor.My
open Go.RowKit
/-- May a byte stand in a line (or end it)? -/
def okc (c : Nat) : Bool := decide (32 ≤ c ∧ c ≤ 126) || c == 9 || c == 10
/-- How many line feeds, from place i on. -/
def feedsR (s : ByteArray) : Nat → Nat → Nat
  | 0, _ => 0
  | b + 1, i => (if bAt s i = 10 then 1 else 0) + feedsR s b (i + 1)
def plainR (s : ByteArray) : Nat → Nat → Bool
  | 0, _ => true
  | b + 1, i => okc (bAt s i) && plainR s b (i + 1)
/-- The lines from place i on, where one has begun at F. -/
def linesR (s : ByteArray) : Nat → Nat → Nat → List ByteArray
  | 0, _, _ => []
  | b + 1, i, F => if bAt s i = 10 then s.extract F i :: linesR s b (i + 1) (i + 1) else linesR s b (i + 1) F
def longL (s : ByteArray) : Prop := 65536 < s.size ∨ 4096 < feedsR s s.size 0
def formL (s : ByteArray) : Prop := (0 < s.size ∧ bAt s (s.size - 1) ≠ 10) ∨ plainR s s.size 0 = false
instance (s : ByteArray) : Decidable (longL s) := by unfold longL; infer_instance
instance (s : ByteArray) : Decidable (formL s) := by unfold formL; infer_instance
/-- The lines of a text, or what is wrong. -/
def linesV (s : ByteArray) : List ByteArray × Int := if longL s then ([], 4) else if formL s then ([], 2) else (linesR s s.size 0 0, 0)
theorem okc_high {c : Nat} (h : 128 ≤ c) : okc c = false := by
  unfold okc
  rw [decide_eq_false (by omega), beq_eq_false_iff_ne.2 (by omega), beq_eq_false_iff_ne.2 (by omega)]
  rfl
theorem feeds_skip (s : ByteArray) (b : Nat) : ∀ (d i : Nat), (∀ k, k < d → 128 ≤ bAt s (i + k)) → feedsR s (b + d) i = feedsR s b (i + d)
  | 0, i, _ => rfl
  | d + 1, i, h => by
    have e := feeds_skip s b d (i + 1) (fun k hk => by rw [Nat.add_assoc, Nat.add_comm 1 k]; exact h (k + 1) (by omega))
    have h0 := h 0 (by omega)
    rw [Nat.add_zero] at h0
    rw [show b + (d + 1) = (b + d) + 1 by omega, feedsR, if_neg (by omega), e, show i + 1 + d = i + (d + 1) by omega, Nat.zero_add]
theorem plain_skip (s : ByteArray) (b d i : Nat) (hd : 1 ≤ d) (h : ∀ k, k < d → 128 ≤ bAt s (i + k)) : plainR s (b + d) i = false := by
  obtain ⟨m, rfl⟩ : ∃ m, d = m + 1 := ⟨d - 1, by omega⟩
  have h0 := h 0 (by omega)
  rw [Nat.add_zero] at h0
  rw [show b + (m + 1) = (b + m) + 1 by omega, plainR, okc_high h0]
  rfl
theorem plain_high (s : ByteArray) (h : plainR s s.size 0 = true) : ∀ i, i < s.size → bAt s i < 128 := by
  have key : ∀ b i, plainR s b i = true → ∀ j, i ≤ j → j < i + b → bAt s j < 128 := by
    intro b
    induction b with
    | zero => intro i _ j h1 h2; omega
    | succ b ih =>
      intro i h j h1 h2
      rw [plainR, Bool.and_eq_true] at h
      by_cases q : j = i
      · subst q
        by_cases r : bAt s j < 128
        · exact r
        · rw [okc_high (by omega)] at h; cases h.1
      · exact ih (i + 1) h.2 j (by omega) (by omega)
  exact fun i hi => key s.size 0 h i (Nat.zero_le _) (by omega)
end Go.Proofs.YtaclidjhgpkmpaaDoor.My
