/- Walk: the number of any text. -/
import Derived.Test.YtaclidjhgpkmpaaDoorTextHex
set_option linter.unusedVariables false
namespace Go.Proofs.YtaclidjhgpkmpaaDoor.My
open Go.RowKit
instance (s : ByteArray) : Decidable (okX s) := by unfold okX; infer_instance
/-- The number behind 0x and whether there is one. -/
def hexV (s : ByteArray) : Int × Bool := if okX s then hexR s (s.size - 2) 2 0 else (0, false)
theorem hexP_any (s : ByteArray) (w : World) (hm : s.size ≤ 9223372036854775807) : Calls Tryd.prog 84 #[.string s] w fun e w' => e = .returned (.tuple #[.int .i64 (hexV s).1, .bool (hexV s).2]) ∧ Below w.heap.size w w' := by
  unfold hexV
  split
  · rename_i h; exact hexP_yes s w h
  · rename_i h; exact (hexP_no s w h hm).mono (by rintro e w' ⟨rfl, rfl⟩; exact ⟨rfl, Below.refl _ _⟩)
theorem hexR_bounds (s : ByteArray) : ∀ (b i : Nat) (n : Int) (k : Nat), 0 ≤ n → n < 16 ^ k → 0 ≤ (hexR s b i n).1 ∧ (hexR s b i n).1 < 16 ^ (k + b)
  | 0, i, n, k, h0, h1 => ⟨h0, h1⟩
  | b + 1, i, n, k, h0, h1 => by
    unfold hexR
    split
    · exact ⟨Int.le_refl _, by show (0 : Int) < 16 ^ _; exact Int.pow_pos (by decide)⟩
    · have hd := hv_lt (bAt s i)
      have := hexR_bounds s b (i + 1) (16 * n + hv (bAt s i)) (k + 1) (by omega) (by rw [Int.pow_succ]; omega)
      rw [show k + (b + 1) = k + 1 + b by omega]
      exact this
/-- The number of the decimal digits from place i on, so many of them, behind u. -/
def decR (s : ByteArray) : Nat → Nat → Int → Int
  | 0, _, u => u
  | b + 1, i, u => decR s b (i + 1) (10 * u + ((bAt s i : Int) - 48))
def digs (s : ByteArray) : Prop := ∀ i, i < s.size → 48 ≤ bAt s i ∧ bAt s i ≤ 57
instance (s : ByteArray) : Decidable (digs s) := by unfold digs; infer_instance
def valN (m : Bool) (V : Int) : Int × Int := if m = true then (if V ≤ 9223372036854775808 then (-V, 0) else (0, 3)) else (if V < 9223372036854775808 then (V, 0) else (0, 3))
def badV (m : Bool) (d : ByteArray) : Prop := d.size = 0 ∨ (bAt d 0 = 48 ∧ (m = true ∨ 1 < d.size)) ∨ ¬ digs d
instance (m : Bool) (d : ByteArray) : Decidable (badV m d) := by unfold badV; infer_instance
def tailV (m : Bool) (d : ByteArray) : Int × Int := if badV m d then (0, 2) else if 19 < d.size then (0, 3) else valN m (decR d d.size 0 0)
theorem pow_10 {k : Nat} (h : k ≤ 18) : (10 : Int) ^ k ≤ 1000000000000000000 := by
  have := Nat.pow_le_pow_right (n := 10) (by decide) h
  have h2 : ((10 ^ k : Nat) : Int) ≤ ((10 ^ 18 : Nat) : Int) := Int.ofNat_le.2 this
  have h3 : ((10 ^ k : Nat) : Int) = (10 : Int) ^ k := by rw [Int.natCast_pow]; rfl
  rw [h3] at h2
  exact h2
theorem parse_hex (s : ByteArray) (w : World) (R : Int × Int) (hm : s.size ≤ 9223372036854775807) (v : Int) (hx : hexV s = (v, true)) (hR : R = (v, 0)) : Calls Tryd.prog 73 #[.string s] w fun e w' => e = .returned (.tuple #[.int .i64 R.1, .int .i64 R.2]) ∧ Below w.heap.size w w' := by
  subst hR
  have HB := startB w
  go_enter Tryd.func73, Tryd.ntmps73
  go_wp2_with (go_at_call 84; refine (hexP_any _ _ hm).mono ?_; rintro e w1 ⟨rfl, hb⟩; rw [hx]; replace HB := keepB HB hb; clear hb)
  go_ret2
  exact ⟨rfl, HB.out.1⟩
end Go.Proofs.YtaclidjhgpkmpaaDoor.My
