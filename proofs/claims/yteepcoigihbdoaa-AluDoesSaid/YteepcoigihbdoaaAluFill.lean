/- The reference's turned, moved, logic: fill an array of 32 bits. -/
import Derived.Test.YteepcoigihbdoaaAluWord
import Derived.Test.YteepcoigihbdoaaSlWords
import Derived.Deep.LoopGhost
set_option linter.unusedVariables false
namespace Go.Proofs.Yteepcoigihbdoaa.My
open Go.RowKit
def fillF (f : Nat → Int) (j : Nat) : List Int := (List.range 32).map fun i => if i < j then f i else 0
theorem fill_len (f : Nat → Int) (j : Nat) : (fillF f j).length = 32 := by simp [fillF]
theorem fill_get (f : Nat → Int) (j i : Nat) : (fillF f j).getD i 0 = if i < 32 ∧ i < j then f i else 0 := by
  unfold fillF
  rw [List.getD_eq_getElem?_getD, List.getElem?_map]
  by_cases h : i < 32
  · rw [List.getElem?_range h]
    by_cases h2 : i < j <;> simp [h, h2]
  · rw [List.getElem?_eq_none (by simp; omega)]
    simp [h]
theorem fill_set (f : Nat → Int) {j : Nat} (hj : j < 32) : (fillF f j).set j (f j) = fillF f (j + 1) := by
  apply List.ext_getElem?
  intro i
  rw [List.getElem?_set]
  unfold fillF
  rw [List.getElem?_map, List.getElem?_map, List.length_map, List.length_range]
  by_cases h : i < 32
  · rw [List.getElem?_range h]
    by_cases h2 : j = i
    · subst h2; simp [h]
    · by_cases h3 : i < j
      · simp [h2, h3, show i < j + 1 by omega]
      · simp [h2, h3, show ¬ i < j + 1 by omega]
  · rw [List.getElem?_eq_none (by simp; omega)]
    by_cases h2 : j = i
    · omega
    · simp [h2]
theorem fill_zero (f : Nat → Int) : fillF f 0 = List.replicate 32 0 := by simp [fillF]; rfl
theorem fill_bits {f : Nat → Int} (h : ∀ i, 0 ≤ f i ∧ f i ≤ 1) (j : Nat) : Bits (fillF f j) := fun i => by
  rw [fill_get]
  split
  · exact h i
  · omega
theorem infoU32 : (Try.prog.info? 22).map (·.size) = some 1 := by kernel_rfl
theorem infoU41 {j : Nat} {f : Nat → Int} : (Try.prog.info? 41).map (·.size) = some (ma .u32 (fillF f j)).size := by rw [ma_size, fill_len]; kernel_rfl
theorem turned_any (a : Int) (k : Nat) (w : World) (a0 : 0 ≤ a) (a1 : a < 4294967296) (hk : k < 32) : Calls Try.prog 30 #[.int .u32 a, .int .i64 k] w fun e w' => e = .returned (.int .u32 (wordN (fillF (fun i => bitZ a ((i + k) % 32)) 32))) ∧ Below w.heap.size w w' := by
  obtain ⟨f, hf⟩ : ∃ f : Nat → Int, f = fun i => bitZ a ((i + k) % 32) := ⟨_, rfl⟩
  rw [← hf]
  have HF := Lib.hid hf
  clear hf
  have HB := keepBa (startB w) (.cells #[.int .u32 0, .int .u32 0, .int .u32 0, .int .u32 0, .int .u32 0, .int .u32 0, .int .u32 0, .int .u32 0, .int .u32 0, .int .u32 0, .int .u32 0, .int .u32 0, .int .u32 0, .int .u32 0, .int .u32 0, .int .u32 0, .int .u32 0, .int .u32 0, .int .u32 0, .int .u32 0, .int .u32 0, .int .u32 0, .int .u32 0, .int .u32 0, .int .u32 0, .int .u32 0, .int .u32 0, .int .u32 0, .int .u32 0, .int .u32 0, .int .u32 0, .int .u32 0] 41)
  have HA : Hid ((w.alloc (.cells #[.int .u32 0, .int .u32 0, .int .u32 0, .int .u32 0, .int .u32 0, .int .u32 0, .int .u32 0, .int .u32 0, .int .u32 0, .int .u32 0, .int .u32 0, .int .u32 0, .int .u32 0, .int .u32 0, .int .u32 0, .int .u32 0, .int .u32 0, .int .u32 0, .int .u32 0, .int .u32 0, .int .u32 0, .int .u32 0, .int .u32 0, .int .u32 0, .int .u32 0, .int .u32 0, .int .u32 0, .int .u32 0, .int .u32 0, .int .u32 0, .int .u32 0, .int .u32 0] 41)).heap[w.heap.size]? = some (.cells (ma .u32 (fillF f 0)) 41 (0, 0))) := (heap_alloc_new _ _).trans (by rw [fill_zero]; rfl)
  go_enter Try.func30, Try.ntmps30
  go_wp2
  go_loopw [6] (fun i wr => ∃ j : Nat, j ≤ 32 ∧ i = .int .i64 j ∧ Hid (wr.heap[w.heap.size]? = some (.cells (ma .u32 (fillF f j)) 41 (0, 0))) ∧ Hid (Below w.heap.size w wr ∧ w.heap.size ≤ wr.heap.size)) (fun i _ => 32 - (intOf i).toNat)
  case atStart => exact ⟨0, by omega, rfl, HA, HB⟩
  case round =>
    clear HA HB
    obtain ⟨j, hj, rfl, HA, HB⟩ := hrel
    by_cases hlt : j < 32
    · have em : ((j : Int) + (k : Int)).tmod 32 = (((j + k) % 32 : Nat) : Int) := by rw [Int.tmod_eq_emod_of_nonneg (by omega)]; omega
      have ef : Hid (bitZ a ((j + k) % 32) = f j) := Lib.hid (by rw [HF.out])
      go_wp2_with (first | (go_at_call 27; refine (bit_any _ _ _ a0 a1 (by omega)).mono ?_; rintro e w1 ⟨rfl, rfl⟩) | (refine cellStore rfl 22 _ _ rfl w.heap.size j rfl (.int .u32 (bitZ a ((j + k) % 32))) rfl rfl rfl HA.out (by rw [ma_size, fill_len]; omega) infoU32 ?_; intro w4 ha ho; replace HB := keepBo HB (Nat.le_refl _) ho; clear HA; rw [ma_set] at ha; have HA := Lib.hid ha; clear ha ho))
      go_roundw
      case rel => exact ⟨j + 1, by omega, by go_num, by rw [← fill_set f hlt, ← ef.out]; exact HA, HB⟩
      case measure => simp [intOf]; omega
    · obtain rfl : j = 32 := by omega
      go_wp2_with (first | (refine rowLoad rfl 41 _ rfl _ rfl HA.out Try.underlying41 rfl infoU41 ?_) | (go_at_call 33; refine (word_any _ _ (fill_len _ _) (fill_bits (fun i => by rw [HF.out]; exact bit_bounds _ _) _)).mono ?_; rintro e w1 ⟨rfl, hb⟩; replace HB := keepB HB hb; clear hb))
      go_ret
      exact ⟨rfl, HB.out.1⟩
end Go.Proofs.Yteepcoigihbdoaa.My
