/- Walk: the decimal digits of any number. -/
import Derived.Test.YtaclidjhgpkmpaaDoorAppWords
import Derived.Test.YtaclidjhgpkmpaaDoorTextRows
import Derived.Test.YtaclidjhgpkmpaaDoorByteWords
set_option linter.unusedVariables false
namespace Go.Proofs.YtaclidjhgpkmpaaDoor.My
open Go.RowKit
/-- A digit. -/
def hd (k : Nat) : UInt8 := UInt8.ofNat (if k < 10 then 48 + k else 87 + k)
theorem hd_nat {k : Nat} (h : k < 16) : (hd k).toNat = if k < 10 then 48 + k else 87 + k := by
  unfold hd
  rw [UInt8.toNat_ofNat']
  split <;> omega
theorem dig_at {k : Nat} (h : k < 16) : bAt ⟨#[48, 49, 50, 51, 52, 53, 54, 55, 56, 57, 97, 98, 99, 100, 101, 102]⟩ k = (hd k).toNat := by
  have key : ∀ i : Fin 16, bAt ⟨#[48, 49, 50, 51, 52, 53, 54, 55, 56, 57, 97, 98, 99, 100, 101, 102]⟩ i.val = (hd i.val).toNat := by decide
  exact key ⟨k, h⟩
/-- The digits of a number. -/
def digP (u : Nat) : List UInt8 := if u < 10 then [hd u] else digP (u / 10) ++ [hd (u % 10)]
def decL (n : Int) : List UInt8 := if n < 0 then 45 :: digP n.natAbs else digP n.natAbs
def ints (l : List UInt8) : List Int := l.map fun b => (b.toNat : Int)
theorem drop_back {xs : List Int} {at_ : Nat} {l : List UInt8} (h : xs.drop at_ = ints l) (j : Nat) (hj : j < l.length) : (ma .u8 xs)[at_ + j]? = some (.int .u8 (l[j].toNat : Int)) := by
  have e : (xs.drop at_)[j]? = some (l[j].toNat : Int) := by rw [h, ints, List.getElem?_map, List.getElem?_eq_getElem hj]; rfl
  rw [List.getElem?_drop] at e
  simp only [ma, List.getElem?_toArray, List.getElem?_map, e]
  rfl
theorem infoU8 : (Tryd.prog.info? 5).map (·.size) = some 1 := by kernel_rfl
theorem infoT20 {xs : List Int} (h : xs.length = 20) : (Tryd.prog.info? 74).map (·.size) = some (ma .u8 xs).size := by rw [ma_size, h]; kernel_rfl
theorem digP_one {u : Nat} (h : u < 10) : digP u = [hd u] := by unfold digP; rw [if_pos h]
theorem digP_more {u : Nat} (h : ¬ u < 10) : digP u = digP (u / 10) ++ [hd (u % 10)] := by
  conv => lhs; unfold digP
  rw [if_neg h]
theorem digP_len : ∀ (k u : Nat), 1 ≤ k → u < 10 ^ k → (digP u).length ≤ k
  | 0, u, h, _ => by omega
  | k + 1, u, _, h => by
    by_cases h9 : u < 10
    · rw [digP_one h9]; simp
    · have hk : 1 ≤ k := by
        rcases Nat.eq_zero_or_pos k with q | q
        · subst q; simp at h; omega
        · exact q
      have := digP_len k (u / 10) hk (Nat.div_lt_of_lt_mul (by rw [← Nat.pow_succ']; exact h))
      rw [digP_more h9, List.length_append]
      simp
      exact this
theorem rep_len (j : Nat) : (List.replicate 20 (0 : Int)).length = 20 := rfl
theorem dec_pos (n : Int) (w : World) (U : Nat) (h1 : U ≤ 9223372036854775808) (hn : n = (U : Int)) : Calls Tryd.prog 11 #[.int .i64 n] w fun e w' => e = .returned (.string (bs (decL n))) ∧ Below w.heap.size w w' := by
  subst hn
  have hu : U ≤ 9223372036854775807 ∨ U = 9223372036854775808 := by omega
  have er : decL (U : Int) = digP U := by unfold decL; rw [if_neg (by omega)]; rfl
  rw [er]
  clear er
  have HB := keepBa (startB w) (.cells #[.int .u8 0, .int .u8 0, .int .u8 0, .int .u8 0, .int .u8 0, .int .u8 0, .int .u8 0, .int .u8 0, .int .u8 0, .int .u8 0, .int .u8 0, .int .u8 0, .int .u8 0, .int .u8 0, .int .u8 0, .int .u8 0, .int .u8 0, .int .u8 0, .int .u8 0, .int .u8 0] 74)
  have HA : Hid ((w.alloc (.cells #[.int .u8 0, .int .u8 0, .int .u8 0, .int .u8 0, .int .u8 0, .int .u8 0, .int .u8 0, .int .u8 0, .int .u8 0, .int .u8 0, .int .u8 0, .int .u8 0, .int .u8 0, .int .u8 0, .int .u8 0, .int .u8 0, .int .u8 0, .int .u8 0, .int .u8 0, .int .u8 0] 74)).heap[w.heap.size]? = some (.cells (ma .u8 (List.replicate 20 0)) 74 (0, 0))) := heap_alloc_new _ _
  go_enter Tryd.func11, Tryd.ntmps11
  go_wp2
  go_loopw [4, 5] (fun u i wr => ∃ (V t : Nat) (xs : List Int) (l : List UInt8), u = .int .u64 V ∧ i = .int .i64 t ∧ t ≤ 19 ∧ 1 ≤ t ∧ V ≤ U ∧ Hid (V < 10 ^ t) ∧ Hid (xs.length = 20) ∧ Hid (xs.drop (t + 1) = ints l) ∧ Hid (l.length = 19 - t) ∧ Hid (digP V ++ l = digP U) ∧ Hid (wr.heap[w.heap.size]? = some (.cells (ma .u8 xs) 74 (0, 0))) ∧ Hid (Below w.heap.size w wr ∧ w.heap.size ≤ wr.heap.size)) (fun u _ _ => (intOf u).toNat)
  case atStart => exact ⟨U, 19, _, [], rfl, rfl, by omega, by omega, Nat.le_refl _, by show U < 10 ^ 19; omega, Lib.hid (rep_len 0), Lib.hid rfl, Lib.hid rfl, List.append_nil _, HA, HB⟩
  case round =>
    clear HA HB hu
    obtain ⟨V, t, xs, l, rfl, rfl, t19, t1, vu, HV, HL, HX, HLL, HD, HA, HB⟩ := hrel
    by_cases h9 : 9 < V
    · have em : (V : Int).tmod 10 = ((V % 10 : Nat) : Int) := by rw [Int.tmod_eq_emod_of_nonneg (by omega)]; rfl
      have eq : (V : Int).tdiv 10 = ((V / 10 : Nat) : Int) := by rw [Int.tdiv_eq_ediv_of_nonneg (by omega)]; rfl
      have t2 : 2 ≤ t := by
        by_cases q : t = 1
        · have := HV.out; rw [q] at this; omega
        · omega
      have HW : Hid (V / 10 < 10 ^ (t - 1)) := by
        show V / 10 < 10 ^ (t - 1)
        apply Nat.div_lt_of_lt_mul
        have e : 10 * 10 ^ (t - 1) = 10 ^ t := by rw [← Nat.pow_succ']; congr 1; omega
        rw [e]
        exact HV.out
      have HY : Hid ((xs.set t ((hd (V % 10)).toNat : Int)).drop (t - 1 + 1) = ints (hd (V % 10) :: l)) := by
        show (xs.set t ((hd (V % 10)).toNat : Int)).drop (t - 1 + 1) = _
        rw [show t - 1 + 1 = t by omega, set_drop (by rw [HL.out]; omega), HX.out]
        rfl
      go_wp2_with (first | (refine strIndex rfl _ _ _ rfl Tryd.underlying9 ⟨#[48, 49, 50, 51, 52, 53, 54, 55, 56, 57, 97, 98, 99, 100, 101, 102]⟩ rfl _ _ rfl (V % 10) _ rfl (show V % 10 < 16 by omega) (dig_at (by omega)) ?_) | (refine cellStore rfl 5 _ _ rfl w.heap.size t rfl (.int .u8 ((hd (V % 10)).toNat : Int)) rfl rfl rfl HA.out (by rw [ma_size, HL.out]; omega) infoU8 ?_; intro w4 ha ho; replace HB := keepBo HB (Nat.le_refl _) ho; clear HA; rw [ma_set] at ha; have HA := Lib.hid ha; clear ha ho))
      go_roundw
      case rel => exact ⟨V / 10, t - 1, _, hd (V % 10) :: l, rfl, by go_num, by omega, by omega, by omega, HW, by show (xs.set t _).length = 20; rw [List.length_set]; exact HL.out, HY, by show (hd (V % 10) :: l).length = 19 - (t - 1); rw [List.length_cons, HLL.out]; omega, by show digP (V / 10) ++ hd (V % 10) :: l = digP U; rw [← HD.out, digP_more (show ¬ V < 10 by omega), List.append_assoc]; rfl, HA, HB⟩
      case measure => simp [intOf]; omega
    · have HY : Hid ((xs.set t ((hd V).toNat : Int)).drop t = ints (hd V :: l)) := by
        show (xs.set t ((hd V).toNat : Int)).drop t = _
        rw [set_drop (by rw [HL.out]; omega), HX.out]
        rfl
      have HE : Hid (hd V :: l = digP U) := by
        show hd V :: l = digP U
        rw [← HD.out, digP_one (by omega)]
        rfl
      go_wp2_with (first | (refine strIndex rfl _ _ _ rfl Tryd.underlying9 ⟨#[48, 49, 50, 51, 52, 53, 54, 55, 56, 57, 97, 98, 99, 100, 101, 102]⟩ rfl _ _ rfl V _ rfl (show V < 16 by omega) (dig_at (by omega)) ?_) | (refine cellStore rfl 5 _ _ rfl w.heap.size t rfl (.int .u8 ((hd V).toNat : Int)) rfl rfl rfl HA.out (by rw [ma_size, HL.out]; omega) infoU8 ?_; intro w4 ha ho; replace HB := keepBo HB (Nat.le_refl _) ho; clear HA; rw [ma_set] at ha; have HA := Lib.hid ha; clear ha ho) | (refine arrSlice rfl _ _ _ rfl 20 5 Tryd.underlying74 infoU8 w.heap.size rfl _ _ rfl t rfl (by omega) ?_) | (refine strBack rfl _ _ 5 _ rfl Tryd.underlying38 Tryd.underlying5 Tryd.underlying9 _ _ _ _ rfl (hd V :: l) (by rw [List.length_cons, HLL.out]; omega) HA.out (drop_back HY.out) ?_))
      go_ret
      exact ⟨by rw [HE.out]; rfl, HB.out.1⟩
end Go.Proofs.YtaclidjhgpkmpaaDoor.My
