/- The law of words. -/
import Derived.Test.YtfpidpdhheickaaNumRWords
import Derived.Test.YtfpidpdhheickaaNumAwake
import Derived.BigQuiet
set_option linter.unusedVariables false
namespace Go.Proofs.Ytfpidpdhheickaa.My
open Go.RowKit
theorem RdS.below {w w' : World} {A : Option Addr} {ws : List ByteArray} (h : RdS w A ws) (hb : Below w.heap.size w w') : RdS w' A ws := fun hn => by
  obtain ⟨b, off, rfl, hc⟩ := h hn
  exact ⟨b, off, rfl, fun j x hx => (hb.cell (World.block_lt_of_cell? w _ (hc j x hx))).trans (hc j x hx)⟩
theorem wordsR_len (s : ByteArray) : ∀ (b i : Nat) (f : Option Nat), (wordsR s b i f).length ≤ b + 1
  | 0, i, none => Nat.zero_le _
  | 0, i, some F => Nat.le_refl _
  | b + 1, i, none => by
    have h1 := wordsR_len s b (i + 1) none
    have h2 := wordsR_len s b (i + 1) (some i)
    unfold wordsR
    split <;> omega
  | b + 1, i, some F => by
    have h1 := wordsR_len s b (i + 1) none
    have h2 := wordsR_len s b (i + 1) (some F)
    unfold wordsR
    split
    · rw [List.length_cons]; omega
    · omega
theorem nwords_any (s : ByteArray) (w : World) (hm : s.size ≤ maxLen) : Calls Try.prog 5 #[.string s] w fun e w' => e = .returned (.bool true) ∧ Below w.heap.size w w' := by
  have HB := startB w
  have hm2 : s.size ≤ 9223372036854775807 := hm
  clear hm
  by_cases h : 400 < s.size
  · go_enter Try.func5, Try.ntmps5
    go_wp2_with (go_at_call 13; refine (awake_any _).mono ?_; rintro e w1 ⟨rfl, hb⟩; replace HB := keepB HB hb; clear hb)
    go_ret
    exact ⟨rfl, HB.out.1⟩
  · have hl : (wordsL s).length ≤ 9223372036854775807 := by have := wordsR_len s s.size 0 none; unfold wordsL; omega
    obtain ⟨WS, hW⟩ : ∃ WS, wordsL s = WS := ⟨_, rfl⟩
    rw [hW] at hl
    have a1 : ∀ w, Calls Try.prog 17 #[.string s] w fun e w' => (∃ v, e = .returned v ∧ Own w' w.heap.size v WS) ∧ Below w.heap.size w w' := fun w => hW ▸ words_any s w (by omega)
    have a2 : ∀ w, Calls Try.prog 18 #[.string s] w fun e w' => (∃ v, e = .returned v ∧ Own w' w.heap.size v WS) ∧ Below w.heap.size w w' := fun w => hW ▸ rwords_any s w (by omega)
    have A1 := Lib.hid a1
    have A2 := Lib.hid a2
    clear a1 a2 hW
    go_enter Try.func5, Try.ntmps5
    go_wp2_with (first | (go_at_call 17; refine (A1.out _).mono ?_; rintro e w1 ⟨⟨v, rfl, ho⟩, hb⟩; replace HB := keepB HB hb; obtain ⟨A, c, rfl, hr⟩ := RdS.of_own ho; have HR := Lib.hid hr; clear hb ho hr) | (go_at_call 18; refine (A2.out _).mono ?_; rintro e w2 ⟨⟨v, rfl, ho⟩, hb⟩; replace HB := keepB HB hb; obtain ⟨C, d, rfl, hr⟩ := RdS.of_own ho; have HC := Lib.hid hr; replace HR := Lib.hid (HR.out.below hb); clear hb ho hr) | (go_at_call 16; refine (texts_any _ _ _ _ WS _ HR.out HC.out hl).mono ?_; rintro e w1 ⟨rfl, hb⟩; replace HB := keepB HB hb; clear hb) | (go_at_call 13; refine (awake_any _).mono ?_; rintro e w1 ⟨rfl, hb⟩; replace HB := keepB HB hb; clear hb))
    go_ret
    exact ⟨rfl, HB.out.1⟩
end Go.Proofs.Ytfpidpdhheickaa.My
