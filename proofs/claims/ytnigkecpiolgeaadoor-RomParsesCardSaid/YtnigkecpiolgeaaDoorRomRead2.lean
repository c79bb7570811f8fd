/- Walk: the number that digits are: the reference's. -/
import Derived.Test.YtnigkecpiolgeaaDoorRomRead1
import Derived.Test.YtnigkecpiolgeaaDoorRomRText
set_option linter.unusedVariables false
set_option linter.unusedSimpArgs false
namespace Go.Proofs.YtnigkecpiolgeaaDoor.My
open Go.RowKit
theorem bAt_getT {l : List UInt8} {i : Nat} {c : UInt8} (h : l[i]? = some c) : bAt (bs l) i = c.toNat := by
  obtain ⟨h1, h2⟩ := List.getElem?_eq_some_iff.1 h
  rw [bs_at h1, h2]
theorem hexN_step {l : List UInt8} {k : Nat} {c : UInt8} (h : l[k]? = some c) (n : Nat) : hexN (l.drop k) n = if hv (c.toNat : Int) < 0 then none else hexN (l.drop (k + 1)) (16 * n + (hv (c.toNat : Int)).toNat) := by
  rw [drop_cons h, hexN]
theorem pow_step {N k v : Nat} (h : N < 16 ^ k) (hv : v < 16) : 16 * N + v < 16 ^ (k + 1) := by rw [Nat.pow_succ]; omega
theorem pow_8 {N k : Nat} (h : N < 16 ^ k) (hk : k ≤ 8) : N < 4294967296 := Nat.lt_of_lt_of_le h (Nat.pow_le_pow_right (by decide) hk : 16 ^ k ≤ 16 ^ 8)
set_option maxRecDepth 100000 in
set_option maxHeartbeats 1000000 in
theorem hexes_any (l : List UInt8) (w : World) (hl : l.length ≤ 8) (R : Option Nat) (hR : hexN l 0 = R) : Calls Tryd.prog 47 #[.string (bs l)] w fun e w' => e = .returned (.int .i64 (optI R)) ∧ w = w' := by
  have HR : Hid (hexN (l.drop 0) 0 = R) := Lib.hid hR
  have HP : Hid (0 < 16 ^ 0) := Lib.hid (by decide)
  clear hR
  have hbl : (bs l).size = l.length := bs_size l
  go_enter Tryd.func47, Tryd.ntmps47
  go_wp2
  go_loop [3, 4] (fun n i => ∃ k N : Nat, k ≤ l.length ∧ i = .int .i64 k ∧ n = .int .i64 N ∧ Hid (hexN (l.drop k) N = R) ∧ Hid (N < 16 ^ k)) (fun _ i => l.length - (intOf i).toNat)
  case atStart => exact ⟨0, 0, Nat.zero_le _, by first | trivial | rfl, by first | trivial | rfl, HR, HP⟩
  case round =>
    clear HR HP
    obtain ⟨k, N, hk, rfl, rfl, HR, HP⟩ := hrel
    by_cases hlt : k < l.length
    · obtain ⟨x, hx⟩ : ∃ x, l[k]? = some x := ⟨_, List.getElem?_eq_getElem hlt⟩
      have hr := HR.out
      rw [hexN_step hx] at hr
      have HXK := Lib.hid hx
      have hxl := x.toNat_lt
      obtain ⟨V, hV⟩ : ∃ V, hv (x.toNat : Int) = V := ⟨_, rfl⟩
      have hVl : V < 16 := by rw [← hV]; exact hv_lt _
      have HV := Lib.hid hV
      rw [hV] at hr
      have hN : N < 4294967296 := pow_8 HP.out (by omega)
      clear HR hx hV
      by_cases hneg : V < 0
      · rw [if_pos hneg] at hr
        subst hr
        go_wp2_with (first | (refine strIndex (by rfl) _ _ _ rfl Tryd.underlying9 (bs l) rfl .i64 _ rfl k x.toNat rfl (by rw [bs_size]; exact hlt) (bAt_getT HXK.out) ?_) | (go_at_call 52; refine (value_any _ _ _ (by omega) (by omega) HV.out).mono ?_; rintro e w2 ⟨rfl, rfl⟩))
        go_ret
        exact ⟨rfl, rfl⟩
      · rw [if_neg hneg] at hr
        obtain ⟨v, rfl⟩ : ∃ v : Nat, V = v := ⟨V.toNat, by omega⟩
        have HR2 : Hid (hexN (l.drop (k + 1)) (16 * N + v) = R) := Lib.hid (by rw [Int.toNat_natCast] at hr; exact hr)
        have HP2 : Hid (16 * N + v < 16 ^ (k + 1)) := Lib.hid (pow_step HP.out (by omega))
        have q : ¬ ((v : Int) < 0) := hneg
        clear hr
        go_wp2_with (first | (refine strIndex (by rfl) _ _ _ rfl Tryd.underlying9 (bs l) rfl .i64 _ rfl k x.toNat rfl (by rw [bs_size]; exact hlt) (bAt_getT HXK.out) ?_) | (go_at_call 52; refine (value_any _ _ _ (by omega) (by omega) HV.out).mono ?_; rintro e w2 ⟨rfl, rfl⟩))
        go_round
        case rel => exact ⟨k + 1, 16 * N + v, by omega, by first | trivial | go_num, by first | trivial | go_num, HR2, HP2⟩
        case measure => simp [intOf]; omega
    · obtain rfl : k = l.length := by omega
      have hr := HR.out
      rw [List.drop_eq_nil_of_le (Nat.le_refl _), hexN] at hr
      subst hr
      go_wp2
      go_ret
      exact ⟨rfl, rfl⟩
end Go.Proofs.YtnigkecpiolgeaaDoor.My
