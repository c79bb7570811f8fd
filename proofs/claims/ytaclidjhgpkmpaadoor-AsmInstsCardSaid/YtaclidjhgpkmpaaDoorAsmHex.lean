/- Walks: the eight digits of base 16 of a word, both sides. -/
import Derived.Test.YtaclidjhgpkmpaaDoorTextDec2
import Derived.Test.YtaclidjhgpkmpaaDoorTextHex
set_option linter.unusedVariables false
namespace Go.Proofs.YtaclidjhgpkmpaaDoor.My
open Go.RowKit
theorem ret_int {k : IntKind} {a b : Int} (h : a = b) : Ending.returned (.int k a) = .returned (.int k b) := by rw [h]
def hexD (u i : Nat) : UInt8 := hd (u / 16 ^ (7 - i) % 16)
/-- The eight digits of a word. -/
def hexL (u : Nat) : List UInt8 := (List.range 8).map (hexD u)
def fill8 (f : Nat → Int) (j : Nat) : List Int := (List.range 8).map fun i => if i < j then f i else 0
theorem fill8_len (f : Nat → Int) (j : Nat) : (fill8 f j).length = 8 := by simp [fill8]
theorem fill8_set (f : Nat → Int) {j : Nat} (hj : j < 8) : (fill8 f j).set j (f j) = fill8 f (j + 1) := by
  apply List.ext_getElem?
  intro i
  rw [List.getElem?_set]
  unfold fill8
  rw [List.getElem?_map, List.getElem?_map, List.length_map, List.length_range]
  by_cases h : i < 8
  · rw [List.getElem?_range h]
    by_cases h2 : j = i
    · subst h2; simp [h]
    · by_cases h3 : i < j
      · simp [h2, h3, show i < j + 1 by omega]
      · simp [h2, h3, show ¬ i < j + 1 by omega]
  · rw [List.getElem?_eq_none (by simp; omega)]
    by_cases h2 : j = i
    · omega
    · simp [h2]
theorem fill8_all (u : Nat) : fill8 (fun i => ((hexD u i).toNat : Int)) 8 = ints (hexL u) := rfl
theorem and_15 {n : Nat} (h : n < 4294967296) : bits .and .u32 (n : Int) 15 = ((n % 16 : Nat) : Int) := by
  have := bits_mask .u32 32 (by decide) (fun n a b => by rw [IntKind.wrap_u32]; omega) 4 (by decide) (n : Int) (by omega) (by omega)
  have e : (2 : Int) ^ 4 - 1 = 15 := by decide
  rw [e] at this
  rw [this]
  rfl
theorem hex_any (u : Nat) (w : World) (h : u < 4294967296) : Calls Tryd.prog 12 #[.int .u32 u] w fun e w' => e = .returned (.string (bs (hexL u))) ∧ Below w.heap.size w w' := by
  obtain ⟨f, hf⟩ : ∃ f : Nat → Int, f = fun i => ((hexD u i).toNat : Int) := ⟨_, rfl⟩
  have HF := Lib.hid hf
  clear hf
  have HB := keepBa (startB w) (.cells #[.int .u8 0, .int .u8 0, .int .u8 0, .int .u8 0, .int .u8 0, .int .u8 0, .int .u8 0, .int .u8 0] 75)
  have HA : Hid ((w.alloc (.cells #[.int .u8 0, .int .u8 0, .int .u8 0, .int .u8 0, .int .u8 0, .int .u8 0, .int .u8 0, .int .u8 0] 75)).heap[w.heap.size]? = some (.cells (ma .u8 (fill8 f 0)) 75 (0, 0))) := heap_alloc_new _ _
  go_enter Tryd.func12, Tryd.ntmps12
  go_wp2
  go_loopw [5] (fun i wr => ∃ j : Nat, j ≤ 8 ∧ i = .int .i64 j ∧ Hid (wr.heap[w.heap.size]? = some (.cells (ma .u8 (fill8 f j)) 75 (0, 0))) ∧ Hid (Below w.heap.size w wr ∧ w.heap.size ≤ wr.heap.size)) (fun i _ => 8 - (intOf i).toNat)
  case atStart => exact ⟨0, by omega, rfl, HA, HB⟩
  case round =>
    clear HA HB
    obtain ⟨j, hj, rfl, HA, HB⟩ := hrel
    by_cases hlt : j < 8
    · have e1 : ((28 : Int) - 4 * (j : Int)).toNat = 28 - 4 * j := by omega
      obtain ⟨V, hV⟩ : ∃ V, u / 2 ^ (28 - 4 * j) = V := ⟨_, rfl⟩
      have v1 : V < 4294967296 := by rw [← hV]; exact Nat.lt_of_le_of_lt (Nat.div_le_self _ _) h
      have e2 : (u : Int) / 2 ^ (28 - 4 * j) = (V : Int) := by rw [← hV, Int.natCast_ediv, Int.natCast_pow]; rfl
      have e3 := and_15 v1
      have ef : Hid (((hd (V % 16)).toNat : Int) = f j) := Lib.hid (by
        rw [HF.out]
        show _ = ((hexD u j).toNat : Int)
        unfold hexD
        rw [show (16 : Nat) ^ (7 - j) = 2 ^ (28 - 4 * j) by rw [show (16 : Nat) = 2 ^ 4 from rfl, ← Nat.pow_mul]; congr 1; omega, hV])
      clear hV
      go_wp2_with (first | (refine strIndex rfl _ _ _ rfl Tryd.underlying9 ⟨#[48, 49, 50, 51, 52, 53, 54, 55, 56, 57, 97, 98, 99, 100, 101, 102]⟩ rfl _ _ rfl (V % 16) _ rfl (show V % 16 < 16 by omega) (dig_at (by omega)) ?_) | (refine cellStore rfl 5 _ _ rfl w.heap.size j rfl (.int .u8 ((hd (V % 16)).toNat : Int)) rfl rfl rfl HA.out (by rw [ma_size, fill8_len]; omega) infoU8 ?_; intro w4 ha ho; replace HB := keepBo HB (Nat.le_refl _) ho; clear HA; rw [ma_set] at ha; have HA := Lib.hid ha; clear ha ho))
      go_roundw
      case rel => exact ⟨j + 1, by omega, by go_num, by rw [← fill8_set f hlt, ← ef.out]; exact HA, HB⟩
      case measure => simp [intOf]; omega
    · obtain rfl : j = 8 := by omega
      have HY : Hid ((fill8 f 8).drop 0 = ints (hexL u)) := by show (fill8 f 8).drop 0 = _; rw [HF.out]; rfl
      go_wp2_with (first | (refine arrAll rfl _ _ rfl 8 5 Tryd.underlying75 infoU8 w.heap.size rfl (by decide) ?_) | (refine strBack rfl _ _ 5 _ rfl Tryd.underlying38 Tryd.underlying5 Tryd.underlying9 _ _ _ _ rfl (hexL u) rfl HA.out (drop_back HY.out) ?_))
      go_ret
      exact ⟨rfl, HB.out.1⟩
theorem hexL_drop (u : Nat) {j : Nat} (h : j < 8) : hd (u / 16 ^ j % 16) :: (hexL u).drop (8 - j) = (hexL u).drop (8 - (j + 1)) := by
  have e : (hexL u).length = 8 := by simp [hexL]
  rw [List.drop_eq_getElem_cons (show 8 - (j + 1) < (hexL u).length by omega), show 8 - (j + 1) + 1 = 8 - j by omega]
  congr 1
  simp only [hexL, List.getElem_map, List.getElem_range]
  unfold hexD
  rw [show 7 - (8 - (j + 1)) = j by omega]
end Go.Proofs.YtaclidjhgpkmpaaDoor.My
