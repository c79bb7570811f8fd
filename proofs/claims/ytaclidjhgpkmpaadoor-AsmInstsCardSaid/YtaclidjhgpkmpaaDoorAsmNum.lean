/- Walks: a number between two others; hi and lo of a value. -/
import Derived.Test.YtaclidjhgpkmpaaDoorTextNumB
import Derived.Test.YtaclidjhgpkmpaaDoorTextParsePlain
set_option linter.unusedVariables false
set_option linter.unusedSimpArgs false
namespace Go.Proofs.YtaclidjhgpkmpaaDoor.My
open Go.RowKit
/-- A number that lies between two others, or what is wrong. -/
def numberV (s : List UInt8) (f t : Int) : Int × Int := if (parseV (bs s)).2 = 0 ∧ ((parseV (bs s)).1 < f ∨ t < (parseV (bs s)).1) then (0, 3) else parseV (bs s)
set_option maxHeartbeats 2000000 in
theorem number_any (s : List UInt8) (f t : Int) (w : World) (hs : s.length ≤ 1000000) : Calls Tryd.prog 58 #[.string (bs s), .int .i64 f, .int .i64 t] w fun e w' => e = .returned (.tuple #[.int .i64 (numberV s f t).1, .int .i64 (numberV s f t).2]) ∧ Below w.heap.size w w' := by
  have hz : (bs s).size ≤ 9223372036854775807 := by rw [bs_size]; omega
  unfold numberV
  obtain ⟨⟨n, E⟩, hP⟩ : ∃ P, parseV (bs s) = P := ⟨_, rfl⟩
  have HP := Lib.hid hP
  rw [hP]
  clear hP hs
  by_cases h0 : E = 0
  · subst h0
    by_cases h1 : n < f
    · rw [if_pos ⟨rfl, .inl h1⟩]
      have q1 : decide (n < f) = true := decide_eq_true h1
      clear h1
      go_enter Tryd.func58, Tryd.ntmps58
      go_wp2_with (go_at_call 73; refine (parse_any (bs s) _ hz).mono ?_; simp only [HP.out]; rintro e w1 ⟨rfl, hb⟩; have HB := Lib.hid hb; clear hb)
      go_ret2
      exact ⟨rfl, HB.out⟩
    · have q1 : decide (n < f) = false := decide_eq_false h1
      by_cases h2 : t < n
      · rw [if_pos ⟨rfl, .inr h2⟩]
        have q2 : decide (t < n) = true := decide_eq_true h2
        clear h1 h2
        go_enter Tryd.func58, Tryd.ntmps58
        go_wp2_with (go_at_call 73; refine (parse_any (bs s) _ hz).mono ?_; simp only [HP.out]; rintro e w1 ⟨rfl, hb⟩; have HB := Lib.hid hb; clear hb)
        go_ret2
        exact ⟨rfl, HB.out⟩
      · rw [if_neg (fun q => by rcases q.2 with r | r; exact h1 r; exact h2 r)]
        have q2 : decide (t < n) = false := decide_eq_false h2
        clear h1 h2
        go_enter Tryd.func58, Tryd.ntmps58
        go_wp2_with (go_at_call 73; refine (parse_any (bs s) _ hz).mono ?_; simp only [HP.out]; rintro e w1 ⟨rfl, hb⟩; have HB := Lib.hid hb; clear hb)
        go_ret2
        exact ⟨rfl, HB.out⟩
  · rw [if_neg (fun q => h0 q.1)]
    have q1 : (E == 0) = false := beq_eq_false_iff_ne.2 h0
    clear h0
    go_enter Tryd.func58, Tryd.ntmps58
    go_wp2_with (go_at_call 73; refine (parse_any (bs s) _ hz).mono ?_; simp only [HP.out]; rintro e w1 ⟨rfl, hb⟩; have HB := Lib.hid hb; clear hb)
    go_ret2
    exact ⟨rfl, HB.out⟩
/-- hi, or lo, of a value. -/
def partH (v : Nat) : Nat := (v + 8192) % 4294967296 / 16384
def partL (v : Nat) : Int := if v % 16384 < 8192 then ((v % 16384 : Nat) : Int) else ((v % 16384 : Nat) : Int) - 16384
theorem ret_i64 {a b : Int} (h : a = b) : Ending.returned (.int .i64 a) = .returned (.int .i64 b) := by rw [h]
set_option maxHeartbeats 1000000 in
theorem part_hi (v : Nat) (w : World) (hv : v < 4294967296) : Calls Tryd.prog 75 #[.string ⟨#[104, 105]⟩, .int .u32 (v : Nat)] w fun e w' => e = .returned (.int .i64 (partH v : Nat)) ∧ w = w' := by
  go_enter Tryd.func75, Tryd.ntmps75
  go_wp2
  go_ret
  refine ⟨ret_i64 ?_, rfl⟩
  unfold partH
  omega
set_option maxHeartbeats 1000000 in
theorem part_lo (x : List UInt8) (v : Nat) (w : World) (hx : x ≠ [104, 105]) (hv : v < 4294967296) : Calls Tryd.prog 75 #[.string (bs x), .int .u32 (v : Nat)] w fun e w' => e = .returned (.int .i64 (partL v)) ∧ w = w' := by
  have q1 : ((bs x).toList == [104, 105]) = false := by rw [show (bs x).toList = x from ByteArray.toList_eq _]; exact beq_eq_false_iff_ne.2 hx
  clear hx
  go_enter Tryd.func75, Tryd.ntmps75
  go_wp2
  go_ret
  refine ⟨ret_i64 ?_, rfl⟩
  unfold wrap64 wrap32 partL
  split <;> omega
end Go.Proofs.YtaclidjhgpkmpaaDoor.My
