/- Walk over the chapter's example; lists of any ring. -/
import Derived.Test.YtpljolhcikbejaaFreelMake
set_option linter.unusedSimpArgs false
set_option linter.unusedVariables false
namespace Go.Proofs.Ytpljolhcikbejaa.My
open Go.RowKit
theorem list_some (A : Option Addr) (n c : Nat) (h N : Int) (xs : List Int) (w : World) (hr : RdA .i64 w A n xs) (hn0 : 0 < n) (hs : soundB n h N = true) : Calls Try.prog 15 #[.agg #[.slice A n c, .int .i64 h, .int .i64 N]] w fun e w' => (∃ v, e = .returned v ∧ OwnI w' w.heap.size v (ringL xs n h N)) ∧ Below w.heap.size w w' := by
  obtain ⟨b, off, rfl, hc⟩ := hr.2 hn0
  exact list_yes b off n c h N xs w hc hn0 hs
theorem own_rd {w : World} {B : Nat} {v : Value} {xs : List Int} (h : OwnI w B v xs) : ∃ A c, v = .slice A xs.length c ∧ RdA .i64 w A xs.length xs := by
  obtain ⟨A, c, h1, h2, _⟩ := RdA.of_own h
  exact ⟨A, c, h1, h2⟩
theorem aw_new (w : World) : Calls Try.prog 14 #[.int .i64 4, .int .i64 2] w fun e w' => NewFree w w' 4 [2, 3, 0, 0] 0 2 e := by
  have h := new_any 4 2 4 2 w (by decide) (by decide)
  rw [show newL 4 2 = [2, 3, 0, 0] by decide] at h
  exact h
theorem aw_take (A : Option Addr) (c : Nat) (w : World) (hr : RdA .i64 w A 4 [2, 3, 0, 0]) : Calls Try.prog 7 #[.agg #[.slice A 4 c, .int .i64 0, .int .i64 2]] w fun e w' => TakePost w w' 4 [2, 3, 0, 0] 1 1 2 true e := by
  have h := take_any A 4 c 0 2 [2, 3, 0, 0] w hr (by decide)
  rw [show tkH 4 0 2 = 1 by decide, show tkN 4 0 2 = 1 by decide, show tkP [2, 3, 0, 0] 4 0 2 = 2 by decide, show takeB 4 0 2 = true by decide] at h
  exact h
theorem aw_give (A : Option Addr) (c : Nat) (w : World) (hr : RdA .i64 w A 4 [2, 3, 0, 0]) : Calls Try.prog 10 #[.agg #[.slice A 4 c, .int .i64 1, .int .i64 1], .int .i64 2] w fun e w' => GivePost w w' 4 [2, 3, 2, 0] 1 2 e := by
  have h := give_any A 4 c 1 1 2 [2, 3, 0, 0] w hr (by decide)
  rw [show gvR [2, 3, 0, 0] 4 1 1 2 = [2, 3, 2, 0] by decide, show gvN 4 1 1 = 2 by decide] at h
  exact h
theorem aw_back (A : Option Addr) (c : Nat) (w : World) (hr : RdA .i64 w A 4 [2, 3, 2, 0]) : Calls Try.prog 12 #[.agg #[.slice A 4 c, .int .i64 1, .int .i64 2], .int .i64 5] w fun e w' => GivePost w w' 4 [5, 3, 2, 0] 0 3 e := by
  have h := back_any A 4 c 1 2 5 [2, 3, 2, 0] w hr (by decide)
  rw [show bkR [2, 3, 2, 0] 4 1 2 5 = [5, 3, 2, 0] by decide, show bkH 4 1 2 = 0 by decide, show gvN 4 1 2 = 3 by decide] at h
  exact h
theorem aw_list (A : Option Addr) (c : Nat) (w : World) (hr : RdA .i64 w A 4 [5, 3, 2, 0]) : Calls Try.prog 15 #[.agg #[.slice A 4 c, .int .i64 0, .int .i64 3]] w fun e w' => (∃ A c, e = .returned (.slice A 3 c) ∧ RdA .i64 w' A 3 [5, 3, 2]) ∧ Below w.heap.size w w' := by
  refine (list_some A 4 c 0 3 [5, 3, 2, 0] w hr (by decide) (by decide)).mono ?_
  rintro e w' ⟨⟨v, rfl, ho⟩, hb⟩
  rw [show ringL [5, 3, 2, 0] 4 0 3 = [5, 3, 2] by decide] at ho
  obtain ⟨A, c, rfl, hr⟩ := own_rd ho
  exact ⟨⟨A, c, rfl, hr⟩, hb⟩
set_option maxHeartbeats 2000000 in
theorem awake_any (w : World) : Calls Try.prog 6 #[] w fun e w' => e = .returned (.bool true) ∧ Below w.heap.size w w' := by
  have HB := startB w
  go_enter Try.func6, Try.ntmps6
  go_wp2_with (first | (go_at_call 14; refine (aw_new _).mono ?_; rintro e w1 ⟨A0, c0, rfl, hr, hF, hb⟩; replace HB := keepB HB hb; have H0 := Lib.hid hr; clear hr hF hb) | (go_at_call 7; refine (aw_take _ _ _ H0.out).mono ?_; rintro e w2 ⟨A1, c1, rfl, hr, hb⟩; replace HB := keepB HB hb; have H1 := Lib.hid hr; clear hr hb) | (refine rowNew rfl 24 _ _ rfl rfl _ rfl infoFree (by rfl) (by simp [Value.oneCell']) ?_; intro w3 hx hb; have HX := Lib.hid hx; replace H1 := Lib.hid (H1.out.below hb); replace HB := keepB HB hb; clear hb hx) | (refine rowLoad rfl 24 _ rfl _ rfl HX.out Try.underlying24 rfl infoFree ?_) | (go_at_call 10; refine (aw_give _ _ _ H1.out).mono ?_; rintro e w4 ⟨A2, c2, rfl, hr, hb⟩; replace HB := keepB HB hb; have H2 := Lib.hid hr; clear hr hb) | (go_at_call 12; refine (aw_back _ _ _ H2.out).mono ?_; rintro e w5 ⟨A3, c3, rfl, hr, hb⟩; replace HB := keepB HB hb; have H3 := Lib.hid hr; clear hr hb) | (refine rowNew rfl 24 _ _ rfl rfl _ rfl infoFree (by rfl) (by simp [Value.oneCell']) ?_; intro w6 hx hb; have HY := Lib.hid hx; replace H3 := Lib.hid (H3.out.below hb); replace HB := keepB HB hb; clear hb hx) | (refine rowLoad rfl 24 _ rfl _ rfl HY.out Try.underlying24 rfl infoFree ?_) | (go_at_call 15; refine (aw_list _ _ _ H3.out).mono ?_; rintro e w7 ⟨⟨A4, c4, rfl, hr⟩, hb⟩; replace HB := keepB HB hb; have H4 := Lib.hid hr; clear hr hb) | (go_at_call 16; refine (ints_any _ _ 3 _ _ [5, 3, 2] _ (H4.out.below ((Below.refl _ _).alloc (Nat.le_refl _) _)) (RdA.of_row rfl (heap_alloc_new _ _)) (by decide)).mono ?_; rintro e w8 ⟨rfl, hb⟩; replace HB := keepB (keepBa HB (.cells #[.int .i64 5, .int .i64 3, .int .i64 2] 3)) hb; clear hb))
  go_ret
  exact ⟨rfl, HB.out.1⟩
end Go.Proofs.Ytpljolhcikbejaa.My
