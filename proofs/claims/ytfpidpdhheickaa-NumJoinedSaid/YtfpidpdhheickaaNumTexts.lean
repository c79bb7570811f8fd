/- Walks over the reference: the words of any text; are two lists of texts alike. -/
import Derived.Test.YtfpidpdhheickaaNumWords
set_option linter.unusedVariables false
namespace Go.Proofs.Ytfpidpdhheickaa.My
open Go.RowKit
/-- A slice of texts that is read. -/
def RdS (w : World) (A : Option Addr) (ws : List ByteArray) : Prop :=
  0 < ws.length → ∃ b off, A = some ⟨b, off, none⟩ ∧ ∀ j x, ws[j]? = some x → w.cell? ⟨b, off + j, none⟩ = some (.string x)
theorem RdS.of_own {w : World} {B : Nat} {v : Value} {ws : List ByteArray} (h : Own w B v ws) : ∃ A c, v = .slice A ws.length c ∧ RdS w A ws := by
  rcases h.2 with ⟨rfl, hn⟩ | ⟨g, cap, cur, rfl, hB, _⟩
  · exact ⟨none, 0, by rw [hn], fun h => by omega⟩
  · refine ⟨_, cap, rfl, fun hn => ⟨g, 0, rfl, fun j x hx => ?_⟩⟩
    have hc := h.cells (g := g) rfl j (.string x) (by rw [List.getElem?_map, hx]; rfl)
    have ha : (⟨g, 0, none⟩ : Addr).add j = ⟨g, 0 + j, none⟩ := by unfold Addr.add; split <;> simp_all
    rwa [ha] at hc
theorem texts_any (A C : Option Addr) (c d : Nat) (ws : List ByteArray) (w : World) (hA : RdS w A ws) (hC : RdS w C ws) (hl : ws.length ≤ 9223372036854775807) : Calls Try.prog 16 #[.slice A ws.length c, .slice C ws.length d] w fun e w' => e = .returned (.bool true) ∧ Below w.heap.size w w' := by
  obtain ⟨n, hn⟩ : ∃ n, ws.length = n := ⟨_, rfl⟩
  rw [hn] at hl ⊢
  have HN := Lib.hid hn
  have HA := Lib.hid hA
  have HC := Lib.hid hC
  clear hn hA hC
  go_enter Try.func16, Try.ntmps16
  go_wp2
  go_loopw [5] (fun i wr => ∃ k m : Nat, k ≤ n ∧ i = .int .i64 k ∧ wr = w.drewN m) (fun i _ => n - (intOf i).toNat)
  case atStart => exact ⟨0, 0, Nat.zero_le _, rfl, rfl⟩
  case round =>
    obtain ⟨k, m, hk, rfl, rfl⟩ := hrel
    by_cases hlt : k < n
    · obtain ⟨b, off, rfl, hc1⟩ := HA.out (by rw [HN.out]; omega)
      obtain ⟨b2, off2, rfl, hc2⟩ := HC.out (by rw [HN.out]; omega)
      obtain ⟨x, hx⟩ : ∃ x, ws[k]? = some x := ⟨_, List.getElem?_eq_getElem (by rw [HN.out]; exact hlt)⟩
      have e1 := hc1 k x hx
      have e2 := hc2 k x hx
      have e3 : (x.toList == x.toList) = true := beq_self_eq_true _
      clear hc1 hc2 hx HA HC HN
      go_wp2
      go_region
      go_wp2
      go_roundw
      case rel => exact ⟨k + 1, _, by omega, by go_num, rfl⟩
      case measure => simp [intOf]; omega
    · obtain rfl : k = n := by omega
      go_wp2
      go_ret
      exact ⟨rfl, below_dn (Below.refl _ _) _⟩
end Go.Proofs.Ytfpidpdhheickaa.My
