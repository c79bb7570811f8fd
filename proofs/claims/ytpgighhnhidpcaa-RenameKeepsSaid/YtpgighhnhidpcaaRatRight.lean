/- Walks over the register map's questions (Right, Uses) and their references. -/
import Derived.Test.YtpgighhnhidpcaaRatWalks
import Derived.RegionTactic
import Derived.ChangeAlike
import Derived.BigQuiet
import Derived.Deep.QuietTactic
namespace Go.Proofs.Ytpgighhnhidpcaa.My.Rat
open Go.RowKit

/-- Element i. -/
def el (xs : List Int) (i : Nat) : Int := (xs[i]?).getD 0
theorem ma_el {xs : List Int} {i : Nat} (h : i < xs.length) : (ma .i64 xs)[i]? = some (.int .i64 (el xs i)) := by
  rw [ma_get h]; simp [el]
/-- Register r's place is one from 1 below n, and no earlier register's. -/
def okAt (xs : List Int) (n : Int) (r : Nat) : Bool := (List.range r).all (fun q => q == 0 || el xs q != el xs r) && (decide (1 ≤ el xs r) && decide (el xs r < n))
def rightB (xs : List Int) (n : Int) : Bool := el xs 0 == -1 && (List.range 16).all fun r => r == 0 || okAt xs n r
theorem okAt_iff {xs : List Int} {n : Int} {r : Nat} : okAt xs n r = true ↔ (∀ q, q < r → 1 ≤ q → el xs q ≠ el xs r) ∧ 1 ≤ el xs r ∧ el xs r < n := by
  simp only [okAt, Bool.and_eq_true, List.all_eq_true, List.mem_range, Bool.or_eq_true, beq_iff_eq, bne_iff_ne, decide_eq_true_eq]
  constructor
  · rintro ⟨h, h2⟩
    exact ⟨fun q hq h1 => (h q hq).resolve_left (by omega), h2⟩
  · rintro ⟨h, h2⟩
    exact ⟨fun q hq => by
      by_cases e : q = 0
      · exact .inl e
      · exact .inr (h q hq (by omega)), h2⟩
theorem rightB_iff {xs : List Int} {n : Int} : rightB xs n = true ↔ el xs 0 = -1 ∧ ∀ r, r < 16 → 1 ≤ r → okAt xs n r = true := by
  simp only [rightB, Bool.and_eq_true, List.all_eq_true, List.mem_range, Bool.or_eq_true, beq_iff_eq]
  constructor
  · rintro ⟨h, h2⟩
    exact ⟨h, fun r hr h1 => (h2 r hr).resolve_left (by omega)⟩
  · rintro ⟨h, h2⟩
    exact ⟨h, fun r hr => by
      by_cases e : r = 0
      · exact .inl e
      · exact .inr (h2 r hr (by omega))⟩
theorem rightB_no0 {xs : List Int} {n : Int} (h : el xs 0 ≠ -1) : rightB xs n = false := by
  rw [Bool.eq_false_iff]; exact fun e => h (rightB_iff.1 e).1
theorem rightB_no {xs : List Int} {n : Int} {r : Nat} (hr : r < 16) (h1 : 1 ≤ r) (h : ¬ okAt xs n r = true) : rightB xs n = false := by
  rw [Bool.eq_false_iff]; exact fun e => h ((rightB_iff.1 e).2 r hr h1)
theorem ne_all {xs : List Int} {k m : Nat} (h : ∀ j, j < m → 1 ≤ j → el xs j ≠ el xs k) (hm : el xs m ≠ el xs k) : ∀ j, j < m + 1 → 1 ≤ j → el xs j ≠ el xs k := by
  intro j hj h1
  by_cases e : j = m
  · subst e; exact hm
  · exact h j (by omega) h1
theorem ok_all {xs : List Int} {n : Int} {k : Nat} (h : ∀ j, j < k → 1 ≤ j → okAt xs n j = true) (hk : okAt xs n k = true) : ∀ j, j < k + 1 → 1 ≤ j → okAt xs n j = true := by
  intro j hj h1
  by_cases e : j = k
  · subst e; exact hk
  · exact h j (by omega) h1

set_option maxHeartbeats 1000000 in
theorem right_any (xs : List Int) (n : Int) (w : World) (hl : xs.length = 16) : Calls Try.prog 45 #[.agg (ma .i64 xs), .int .i64 n] w fun e w' => e = .returned (.bool (rightB xs n)) ∧ Below w.heap.size w w' := by
  have H0 := ma_el (xs := xs) (i := 0) (by omega)
  have HL := Lib.hid hl
  clear hl
  by_cases h0 : el xs 0 = -1
  · have hb : (el xs 0 != -1) = false := by simp [h0]
    have HZ := Lib.hid h0
    clear h0
    go_enter Try.func45, Try.ntmps45
    go_wp2
    go_loopw [5] (fun r wr => ∃ k d : Nat, 1 ≤ k ∧ k ≤ 16 ∧ r = .int .i64 k ∧ Hid (∀ j, j < k → 1 ≤ j → okAt xs n j = true) ∧ wr = (w.alloc (.cells (ma .i64 xs) 23)).drewN d) (fun r _ => 16 - (intOf r).toNat)
    case atStart => exact ⟨1, 0, by omega, by omega, rfl, fun j hj h1 => absurd hj (by omega), rfl⟩
    case round =>
      obtain ⟨k, d, hk1, hk, rfl, HK, rfl⟩ := hrel
      by_cases hlt : k < 16
      · have HKK := ma_el (xs := xs) (i := k) (by rw [HL.out]; exact hlt)
        go_wp2
        go_loopw [6] (fun q wr => ∃ m d : Nat, 1 ≤ m ∧ m ≤ k ∧ q = .int .i64 m ∧ Hid (∀ j, j < m → 1 ≤ j → el xs j ≠ el xs k) ∧ wr = (w.alloc (.cells (ma .i64 xs) 23)).drewN d) (fun q _ => k - (intOf q).toNat)
        case atStart => exact ⟨1, d, by omega, by omega, rfl, fun j hj h1 => absurd hj (by omega), rfl⟩
        case round =>
          obtain ⟨m, d2, hm1, hm, rfl, HM, rfl⟩ := hrel
          by_cases hmk : m < k
          · have HMM := ma_el (xs := xs) (i := m) (by rw [HL.out]; omega)
            by_cases hne : el xs m = el xs k
            · have hb2 : (el xs m == el xs k) = true := by simp [hne]
              have HN := Lib.hid hne
              clear hne
              go_wp2
              go_region
              go_wp2
              go_ret
              refine ⟨ret_bool (rightB_no hlt hk1 fun e => (okAt_iff.1 e).1 m hmk hm1 HN.out).symm, ?_⟩
              exact below_dn (below_dn ((Below.refl _ _).alloc (Nat.le_refl _) _) d2) 1
            · have hb2 : (el xs m == el xs k) = false := by simp [hne]
              have HN := Lib.hid hne
              clear hne
              go_wp2
              go_region
              go_wp2
              go_roundw
              case rel => exact ⟨m + 1, d2 + 1, by omega, by omega, by go_num, ne_all HM.out HN.out, by rw [← World.drewN_drewN]⟩
              case measure => simp [intOf]; omega
          · obtain rfl : m = k := by omega
            by_cases hb1 : el xs m < 1
            · go_wp2
              go_ret
              refine ⟨ret_bool (rightB_no hlt hk1 fun e => by have := (okAt_iff.1 e).2; omega).symm, ?_⟩
              exact below_dn ((Below.refl _ _).alloc (Nat.le_refl _) _) d2
            · by_cases hb2 : n ≤ el xs m
              · go_wp2
                go_ret
                refine ⟨ret_bool (rightB_no hlt hk1 fun e => by have := (okAt_iff.1 e).2; omega).symm, ?_⟩
                exact below_dn ((Below.refl _ _).alloc (Nat.le_refl _) _) d2
              · go_wp2
                go_roundw
                case rel => exact ⟨m + 1, d2, by omega, by omega, by go_num, ok_all HK.out (okAt_iff.2 ⟨HM.out, by omega, by omega⟩), rfl⟩
                case measure => simp [intOf]; omega
      · obtain rfl : k = 16 := by omega
        go_wp2
        go_ret
        refine ⟨ret_bool (rightB_iff.2 ⟨HZ.out, fun r hr h1 => HK.out r hr h1⟩).symm, ?_⟩
        exact below_dn ((Below.refl _ _).alloc (Nat.le_refl _) _) d
  · have hb : (el xs 0 != -1) = true := by simp [h0]
    have HZ := Lib.hid h0
    clear h0
    go_enter Try.func45, Try.ntmps45
    go_wp2
    go_ret
    exact ⟨ret_bool (rightB_no0 HZ.out).symm, (Below.refl _ _).alloc (Nat.le_refl _) _⟩

set_option maxHeartbeats 1000000 in
theorem rright_any (xs : List Int) (n : Int) (w : World) (hl : xs.length = 16) : Calls Try.prog 50 #[.agg (ma .i64 xs), .int .i64 n] w fun e w' => e = .returned (.bool (rightB xs n)) ∧ Below w.heap.size w w' := by
  have H0 := ma_el (xs := xs) (i := 0) (by omega)
  have HL := Lib.hid hl
  clear hl
  by_cases h0 : el xs 0 = -1
  · have hb : (el xs 0 != -1) = false := by simp [h0]
    have HZ := Lib.hid h0
    clear h0
    go_enter Try.func50, Try.ntmps50
    go_wp2
    go_loopw [5] (fun r wr => ∃ k d : Nat, 1 ≤ k ∧ k ≤ 16 ∧ r = .int .i64 k ∧ Hid (∀ j, j < k → 1 ≤ j → okAt xs n j = true) ∧ wr = (w.alloc (.cells (ma .i64 xs) 23)).drewN d) (fun r _ => 16 - (intOf r).toNat)
    case atStart => exact ⟨1, 0, by omega, by omega, rfl, fun j hj h1 => absurd hj (by omega), rfl⟩
    case round =>
      obtain ⟨k, d, hk1, hk, rfl, HK, rfl⟩ := hrel
      by_cases hlt : k < 16
      · have HKK := ma_el (xs := xs) (i := k) (by rw [HL.out]; exact hlt)
        by_cases hb1 : el xs k < 1
        · go_wp2
          go_ret
          refine ⟨ret_bool (rightB_no hlt hk1 fun e => by have := (okAt_iff.1 e).2; omega).symm, ?_⟩
          exact below_dn ((Below.refl _ _).alloc (Nat.le_refl _) _) d
        · by_cases hb2 : n ≤ el xs k
          · go_wp2
            go_ret
            refine ⟨ret_bool (rightB_no hlt hk1 fun e => by have := (okAt_iff.1 e).2; omega).symm, ?_⟩
            exact below_dn ((Below.refl _ _).alloc (Nat.le_refl _) _) d
          · go_wp2
            go_loopw [6] (fun q wr => ∃ m d : Nat, 1 ≤ m ∧ m ≤ k ∧ q = .int .i64 m ∧ Hid (∀ j, j < m → 1 ≤ j → el xs j ≠ el xs k) ∧ wr = (w.alloc (.cells (ma .i64 xs) 23)).drewN d) (fun q _ => k - (intOf q).toNat)
            case atStart => exact ⟨1, d, by omega, by omega, rfl, fun j hj h1 => absurd hj (by omega), rfl⟩
            case round =>
              obtain ⟨m, d2, hm1, hm, rfl, HM, rfl⟩ := hrel
              by_cases hmk : m < k
              · have HMM := ma_el (xs := xs) (i := m) (by rw [HL.out]; omega)
                by_cases hne : el xs m = el xs k
                · have hb3 : (el xs m == el xs k) = true := by simp [hne]
                  have HN := Lib.hid hne
                  clear hne
                  go_wp2
                  go_region
                  go_wp2
                  go_ret
                  refine ⟨ret_bool (rightB_no hlt hk1 fun e => (okAt_iff.1 e).1 m hmk hm1 HN.out).symm, ?_⟩
                  exact below_dn (below_dn ((Below.refl _ _).alloc (Nat.le_refl _) _) d2) 1
                · have hb3 : (el xs m == el xs k) = false := by simp [hne]
                  have HN := Lib.hid hne
                  clear hne
                  go_wp2
                  go_region
                  go_wp2
                  go_roundw
                  case rel => exact ⟨m + 1, d2 + 1, by omega, by omega, by go_num, ne_all HM.out HN.out, by rw [← World.drewN_drewN]⟩
                  case measure => simp [intOf]; omega
              · obtain rfl : m = k := by omega
                go_wp2
                go_roundw
                case rel => exact ⟨m + 1, d2, by omega, by omega, by go_num, ok_all HK.out (okAt_iff.2 ⟨HM.out, by omega, by omega⟩), rfl⟩
                case measure => simp [intOf]; omega
      · obtain rfl : k = 16 := by omega
        go_wp2
        go_ret
        refine ⟨ret_bool (rightB_iff.2 ⟨HZ.out, fun r hr h1 => HK.out r hr h1⟩).symm, ?_⟩
        exact below_dn ((Below.refl _ _).alloc (Nat.le_refl _) _) d
  · have hb : (el xs 0 != -1) = true := by simp [h0]
    have HZ := Lib.hid h0
    clear h0
    go_enter Try.func50, Try.ntmps50
    go_wp2
    go_ret
    exact ⟨ret_bool (rightB_no0 HZ.out).symm, (Below.refl _ _).alloc (Nat.le_refl _) _⟩

end Go.Proofs.Ytpgighhnhidpcaa.My.Rat
