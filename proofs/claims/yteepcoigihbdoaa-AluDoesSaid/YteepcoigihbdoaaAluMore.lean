/- Walks over package alu: the operations of one number, the upper load, and no operation. -/
import Derived.Test.YteepcoigihbdoaaAluRot
set_option linter.unusedVariables false
namespace Go.Proofs.Yteepcoigihbdoaa.My
open Go.RowKit
theorem do_33 (a b : Int) : DoIs 33 a b (b * 16384 % 4294967296) := by
  constructor
  intro w
  go_enter Try.func8, Try.ntmps8
  go_wp2
  go_ret2
  exact ⟨rfl, rfl⟩
def SingleIs (op a v : Int) : Prop := ∀ w, Calls Try.prog 23 #[.int .i64 op, .int .u32 a] w fun e w' => e = .returned (.tuple #[.int .u32 v, .bool true]) ∧ w = w'
theorem single_21 (a : Int) (j : Nat) (a0 : 0 ≤ a) (a1 : a < 4294967296) (h : SizeIs a j) : SingleIs 21 a (32 - j) := by
  intro w
  have hj := h.1
  have H := Lib.hid h
  clear h
  go_enter Try.func23, Try.ntmps23
  go_wp2_with (go_at_call 16; refine (clz_any _ _ a0 a1).mono ?_; rintro e w' ⟨⟨i, hi, rfl⟩, rfl⟩; obtain rfl := size_uniq a0 hi H.out)
  go_ret2
  exact ⟨rfl, rfl⟩
theorem single_22 (a : Int) (P : Nat) (a0 : 0 ≤ a) (a1 : a < 4294967296) (h : popN a.toNat = P) (hp : P < 4294967296) : SingleIs 22 a P := by
  intro w
  go_enter Try.func23, Try.ntmps23
  go_wp2_with (go_at_call 14; refine (pop_int _ _ a0 a1).mono ?_; rintro e w' ⟨rfl, rfl⟩)
  go_ret2
  exact ⟨rfl, rfl⟩
theorem single_23 (a : Int) (a0 : 0 ≤ a) (a1 : a < 4294967296) : SingleIs 23 a (revZ a) := by
  intro w
  go_enter Try.func23, Try.ntmps23
  go_wp2_with (go_at_call 15; refine (rev_any _ _ a0 a1).mono ?_; rintro e w' ⟨rfl, rfl⟩)
  go_ret2
  exact ⟨rfl, rfl⟩
theorem do_21 (a b v : Int) (h : SingleIs 21 a v) : DoIs 21 a b v := by
  constructor
  intro w
  have H := Lib.hid h
  clear h
  go_enter Try.func8, Try.ntmps8
  go_wp2_with (go_at_call 23; refine (show Calls _ _ _ _ _ from H.out _).mono ?_; rintro e w' ⟨rfl, rfl⟩)
  go_ret2
  exact ⟨rfl, rfl⟩
theorem do_22 (a b v : Int) (h : SingleIs 22 a v) : DoIs 22 a b v := by
  constructor
  intro w
  have H := Lib.hid h
  clear h
  go_enter Try.func8, Try.ntmps8
  go_wp2_with (go_at_call 23; refine (show Calls _ _ _ _ _ from H.out _).mono ?_; rintro e w' ⟨rfl, rfl⟩)
  go_ret2
  exact ⟨rfl, rfl⟩
theorem do_23 (a b v : Int) (h : SingleIs 23 a v) : DoIs 23 a b v := by
  constructor
  intro w
  have H := Lib.hid h
  clear h
  go_enter Try.func8, Try.ntmps8
  go_wp2_with (go_at_call 23; refine (show Calls _ _ _ _ _ from H.out _).mono ?_; rintro e w' ⟨rfl, rfl⟩)
  go_ret2
  exact ⟨rfl, rfl⟩
theorem logic_no (op a b : Int) (w : World) (h3 : (op == 3) = false) (h26 : (op == 26) = false) (h4 : (op == 4) = false) (h27 : (op == 27) = false) (h5 : (op == 5) = false) (h28 : (op == 28) = false) (h6 : (op == 6) = false) (h30 : (op == 30) = false) (h7 : (op == 7) = false) (h31 : (op == 31) = false) (h8 : (op == 8) = false) (h32 : (op == 32) = false) (h20 : (op == 20) = false) : Calls Try.prog 24 #[.int .i64 op, .int .u32 a, .int .u32 b] w fun e w' => e = .returned (.tuple #[.int .u32 0, .bool false]) ∧ w = w' := by
  go_enter Try.func24, Try.ntmps24
  go_wp2
  go_ret2
  exact ⟨rfl, rfl⟩
theorem do_no (op a b : Int) (h1 : (op == 1) = false) (h25 : (op == 25) = false) (h2 : (op == 2) = false) (h9 : (op == 9) = false) (h29 : (op == 29) = false) (h10 : (op == 10) = false) (h18 : (op == 18) = false) (h19 : (op == 19) = false) (h33 : (op == 33) = false) (h21 : (op == 21) = false) (h22 : (op == 22) = false) (h23 : (op == 23) = false) (h3 : (op == 3) = false) (h26 : (op == 26) = false) (h4 : (op == 4) = false) (h27 : (op == 27) = false) (h5 : (op == 5) = false) (h28 : (op == 28) = false) (h6 : (op == 6) = false) (h30 : (op == 30) = false) (h7 : (op == 7) = false) (h31 : (op == 31) = false) (h8 : (op == 8) = false) (h32 : (op == 32) = false) (h20 : (op == 20) = false) : DoTo op a b 0 false := by
  constructor
  intro w
  go_enter Try.func8, Try.ntmps8
  go_wp2_with (go_at_call 24; refine (logic_no op a b _ h3 h26 h4 h27 h5 h28 h6 h30 h7 h31 h8 h32 h20).mono ?_; rintro e w' ⟨rfl, rfl⟩)
  go_ret2
  exact ⟨rfl, rfl⟩
theorem taken_no (op a b : Int) (h43 : (op == 43) = false) (h44 : (op == 44) = false) (h45 : (op == 45) = false) (h46 : (op == 46) = false) (h47 : (op == 47) = false) (h48 : (op == 48) = false) : TakenIs op a b false := by
  constructor
  intro w
  go_enter Try.func10, Try.ntmps10
  go_wp2
  go_ret
  exact ⟨rfl, rfl⟩
end Go.Proofs.Yteepcoigihbdoaa.My
