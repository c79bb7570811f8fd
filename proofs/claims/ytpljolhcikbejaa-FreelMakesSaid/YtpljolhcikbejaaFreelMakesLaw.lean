/- The law of Makes: a new ring, whether any ring may be, and who is in it. -/
import Derived.Test.YtpljolhcikbejaaFreelRight
set_option linter.unusedSimpArgs false
set_option linter.unusedVariables false
namespace Go.Proofs.Ytpljolhcikbejaa.My
open Go.RowKit
theorem makes_long (A : Option Addr) (n c : Nat) (h N q u : Int) (w : World) (hn : 120 < n) : Calls Try.prog 5 #[.int .i64 q, .int .i64 u, .agg #[.slice A n c, .int .i64 h, .int .i64 N]] w fun e w' => e = .returned (.bool true) ∧ Below w.heap.size w w' := by
  have HA : Hid ((w.alloc (.cells #[.slice A n c, .int .i64 h, .int .i64 N] 24)).heap[w.heap.size]? = some (.cells #[.slice A n c, .int .i64 h, .int .i64 N] 24 (0, 0))) := newA w _
  have HB := keepBa (startB w) (.cells #[.slice A n c, .int .i64 h, .int .i64 N] 24)
  (try clear c0 c1 c2); have c0 := (cellA HA 0).trans rfl; have c1 := (cellA HA 1).trans rfl; have c2 := (cellA HA 2).trans rfl
  go_enter Try.func5, Try.ntmps5
  go_wp2_with (go_at_call 6; refine (awake_any _).mono ?_; rintro e w1 ⟨rfl, hb⟩; replace HB := keepB HB hb; clear hb)
  go_ret
  exact ⟨rfl, HB.out.1⟩
theorem ring_le (xs : List Int) (n : Nat) (h N : Int) : (ringL xs n h N).length ≤ 96 := by
  cases hs : soundB n h N with
  | false => unfold ringL; rw [hs]; exact Nat.zero_le _
  | true => rw [ring_len hs]; obtain ⟨a1, a2, a3, a4, a5⟩ := sound_iff.1 hs; omega
set_option maxRecDepth 100000 in
set_option maxHeartbeats 8000000 in
theorem makes_walk (A : Option Addr) (n c : Nat) (h N q u : Int) (xs : List Int) (w : World) (hr : RdA .i64 w A n xs) (hn : ¬ 120 < n) : Calls Try.prog 5 #[.int .i64 q, .int .i64 u, .agg #[.slice A n c, .int .i64 h, .int .i64 N]] w fun e w' => e = .returned (.bool true) ∧ Below w.heap.size w w' := by
  have hnm : n ≤ 9223372036854775807 := by omega
  obtain ⟨M, hM⟩ : ∃ M, cut q 96 = M := ⟨_, rfl⟩
  obtain ⟨U, hU⟩ : ∃ U, cut u M = U := ⟨_, rfl⟩
  have hm96 : M ≤ 96 := hM ▸ cut_le q 96
  have HM := Lib.hid hM
  have HU := Lib.hid hU
  have HR := Lib.hid hr
  have HLL := Lib.hid (show (ringL xs n h N).length ≤ 9223372036854775807 from Nat.le_trans (ring_le xs n h N) (by decide))
  have e1 : ∀ b : Bool, (b == b) = true := fun b => beq_self_eq_true b
  have HA : Hid ((w.alloc (.cells #[.slice A n c, .int .i64 h, .int .i64 N] 24)).heap[w.heap.size]? = some (.cells #[.slice A n c, .int .i64 h, .int .i64 N] 24 (0, 0))) := newA w _
  have HB := keepBa (startB w) (.cells #[.slice A n c, .int .i64 h, .int .i64 N] 24)
  (try clear c0 c1 c2); have c0 := (cellA HA 0).trans rfl; have c1 := (cellA HA 1).trans rfl; have c2 := (cellA HA 2).trans rfl
  clear hr hM hU
  go_enter Try.func5, Try.ntmps5
  go_wp2
  replace HA := keepA1 HA
  replace HB := keepB1 HB
  refine rgStart (S := (fun w' => w'.heap[w.heap.size]? = some (.cells #[.slice A n c, .int .i64 h, .int .i64 N] 24 (0, 0)))) (n := 40) #[false, false, false, false, false, false, false, false, false, false, false, false, false, false, false, false, false, false, false, false, false, false, false, false, false, false, false, false, false, false, false, false, false, false, false, false, false, false, false, false] (by kernel_rfl) rfl rfl HA.out (fun hHeld => ?_)
  refine rgTake (i := 0) (N := some 12) (oi := { dst := some 12, op := Op.move (Operand.tmp 0), type := 3, pos := "law.go:23", after := #[], guard := none }) (v := ?_) #[true, false, false, false, false, false, false, false, false, false, false, false, false, false, false, false, false, false, false, false, false, false, false, false, false, false, false, false, false, false, false, false, false, false, false, false, false, false, false, false] rfl rfl (by kernel_rfl) (fun _ _ _ h => h) (Or.inl ⟨by rfl, ?_⟩) hHeld ?_
  rotate_left
  · intro w' hSw; (try dsimp only at hSw); (have s0 := (cell_of_row _ _ 0 _ _ _ hSw).trans rfl); go_simp; try with_reducible rfl
  simp only [Act.put, List.setIfInBounds_toArray, List.set_cons_zero, List.set_cons_succ]
  refine rgTake (i := 1) (N := some 13) (oi := { dst := some 13, op := Op.move (Operand.tmp 1), type := 3, pos := "law.go:23", after := #[], guard := none }) (v := ?_) #[true, true, false, false, false, false, false, false, false, false, false, false, false, false, false, false, false, false, false, false, false, false, false, false, false, false, false, false, false, false, false, false, false, false, false, false, false, false, false, false] rfl rfl (by kernel_rfl) (fun _ _ _ h => h) (Or.inl ⟨by rfl, ?_⟩) hHeld ?_
  rotate_left
  · intro w' hSw; (try dsimp only at hSw); (have s0 := (cell_of_row _ _ 0 _ _ _ hSw).trans rfl); go_simp; try with_reducible rfl
  simp only [Act.put, List.setIfInBounds_toArray, List.set_cons_zero, List.set_cons_succ]
  refine rgTake (i := 3) (N := some 15) (oi := { dst := some 15, op := Op.move (Operand.tmp 0), type := 3, pos := "law.go:23", after := #[], guard := none }) (v := ?_) #[true, true, false, true, false, false, false, false, false, false, false, false, false, false, false, false, false, false, false, false, false, false, false, false, false, false, false, false, false, false, false, false, false, false, false, false, false, false, false, false] rfl rfl (by kernel_rfl) (fun _ _ _ h => h) (Or.inl ⟨by rfl, ?_⟩) hHeld ?_
  rotate_left
  · intro w' hSw; (try dsimp only at hSw); (have s0 := (cell_of_row _ _ 0 _ _ _ hSw).trans rfl); go_simp; try with_reducible rfl
  simp only [Act.put, List.setIfInBounds_toArray, List.set_cons_zero, List.set_cons_succ]
  refine rgTake (i := 4) (N := some 16) (oi := { dst := some 16, op := Op.move (Operand.tmp 1), type := 3, pos := "law.go:23", after := #[], guard := none }) (v := ?_) #[true, true, false, true, true, false, false, false, false, false, false, false, false, false, false, false, false, false, false, false, false, false, false, false, false, false, false, false, false, false, false, false, false, false, false, false, false, false, false, false] rfl rfl (by kernel_rfl) (fun _ _ _ h => h) (Or.inl ⟨by rfl, ?_⟩) hHeld ?_
  rotate_left
  · intro w' hSw; (try dsimp only at hSw); (have s0 := (cell_of_row _ _ 0 _ _ _ hSw).trans rfl); go_simp; try with_reducible rfl
  simp only [Act.put, List.setIfInBounds_toArray, List.set_cons_zero, List.set_cons_succ]
  refine rgCall (i := 2) (N := some 14) (oi := { dst := some 14, op := Op.call { callee := Callee.value (Operand.func 14), args := #[Operand.tmp 12, Operand.tmp 13], argTypes := #[3, 3] }, type := 24, pos := "law.go:23", after := #[{ on := 0, ground := Ground.data }, { on := 1, ground := Ground.data }], guard := none }) #[true, true, true, true, true, false, false, false, false, false, false, false, false, false, false, false, false, false, false, false, false, false, false, false, false, false, false, false, false, false, false, false, false, false, false, false, false, false, false, false] rfl rfl (by kernel_rfl) (fun K hK => ?_)
  go_simp
  (go_at_call 14; refine (new_any q u M U _ HM.out HU.out).mono ?_; rintro e w1 ⟨A1, c1, rfl, hr, _, hb⟩; replace HB := keepB HB hb; have H1 := Lib.hid hr)
  refine hK.out _ _ (keepA hHeld hb).out (fun hHeld => ?_)
  (try simp only [Act.put, List.setIfInBounds_toArray, List.set_cons_zero, List.set_cons_succ])
  clear hK K
  refine rgCall (i := 5) (N := some 17) (oi := { dst := some 17, op := Op.call { callee := Callee.value (Operand.func 17), args := #[Operand.tmp 15, Operand.tmp 16], argTypes := #[3, 3] }, type := 24, pos := "law.go:23", after := #[{ on := 3, ground := Ground.data }, { on := 4, ground := Ground.data }, { on := 2, ground := Ground.chain }], guard := none }) #[true, true, true, true, true, true, false, false, false, false, false, false, false, false, false, false, false, false, false, false, false, false, false, false, false, false, false, false, false, false, false, false, false, false, false, false, false, false, false, false] rfl rfl (by kernel_rfl) (fun K hK => ?_)
  go_simp
  (go_at_call 17; refine (rnew_any q u M U _ HM.out HU.out).mono ?_; rintro e w1 ⟨A2, c2, rfl, hr, _, hb⟩; replace HB := keepB HB hb; replace H1 := Lib.hid (H1.out.below hb); have H2 := Lib.hid hr)
  refine hK.out _ _ (keepA hHeld hb).out (fun hHeld => ?_)
  (try simp only [Act.put, List.setIfInBounds_toArray, List.set_cons_zero, List.set_cons_succ])
  clear hK K
  refine rgCall (i := 6) (N := some 18) (oi := { dst := some 18, op := Op.call { callee := Callee.value (Operand.func 9), args := #[Operand.tmp 14, Operand.tmp 17], argTypes := #[24, 24] }, type := 4, pos := "law.go:23", after := #[{ on := 2, ground := Ground.data }, { on := 5, ground := Ground.data }, { on := 5, ground := Ground.chain }], guard := none }) #[true, true, true, true, true, true, true, false, false, false, false, false, false, false, false, false, false, false, false, false, false, false, false, false, false, false, false, false, false, false, false, false, false, false, false, false, false, false, false, false] rfl rfl (by kernel_rfl) (fun K hK => ?_)
  go_simp
  (go_at_call 9; refine (free_any _ _ M _ _ 0 _ _ _ H1.out H2.out (by omega)).mono ?_; rintro e w1 ⟨rfl, hb⟩; replace HB := keepB HB hb)
  refine hK.out _ _ (keepA hHeld hb).out (fun hHeld => ?_)
  (try simp only [Act.put, List.setIfInBounds_toArray, List.set_cons_zero, List.set_cons_succ])
  clear hK K
  refine rgTake (i := 7) (N := some 19) (oi := { dst := some 19, op := Op.move (Operand.tmp 18), type := 4, pos := "law.go:23", after := #[{ on := 6, ground := Ground.data }, { on := 6, ground := Ground.chain }], guard := none }) (v := ?_) #[true, true, true, true, true, true, true, true, false, false, false, false, false, false, false, false, false, false, false, false, false, false, false, false, false, false, false, false, false, false, false, false, false, false, false, false, false, false, false, false] rfl rfl (by kernel_rfl) (fun _ _ _ h => h) (Or.inl ⟨by rfl, ?_⟩) hHeld ?_
  rotate_left
  · intro w' hSw; (try dsimp only at hSw); (have s0 := (cell_of_row _ _ 0 _ _ _ hSw).trans rfl); go_simp; try with_reducible rfl
  simp only [Act.put, List.setIfInBounds_toArray, List.set_cons_zero, List.set_cons_succ]
  refine rgTake (i := 8) (N := some 20) (oi := { dst := some 20, op := Op.load 24 (Operand.tmp 5), type := 24, pos := "law.go:23", after := #[{ on := 7, ground := Ground.guard }], guard := some (7, true) }) (v := _) #[true, true, true, true, true, true, true, true, true, false, false, false, false, false, false, false, false, false, false, false, false, false, false, false, false, false, false, false, false, false, false, false, false, false, false, false, false, false, false, false] rfl rfl (by kernel_rfl) (fun _ _ _ h => h) (yieldsRow (by rfl) _ _ rfl _ rfl (fun _ h => h) Try.underlying24 rfl infoFree) hHeld ?_
  simp only [Act.put, List.setIfInBounds_toArray, List.set_cons_zero, List.set_cons_succ]
  refine rgTake (i := 9) (N := some 21) (oi := { dst := some 21, op := Op.move (Operand.tmp 0), type := 3, pos := "law.go:23", after := #[{ on := 7, ground := Ground.guard }], guard := some (7, true) }) (v := ?_) #[true, true, true, true, true, true, true, true, true, true, false, false, false, false, false, false, false, false, false, false, false, false, false, false, false, false, false, false, false, false, false, false, false, false, false, false, false, false, false, false] rfl rfl (by kernel_rfl) (fun _ _ _ h => h) (Or.inl ⟨by rfl, ?_⟩) hHeld ?_
  rotate_left
  · intro w' hSw; (try dsimp only at hSw); (have s0 := (cell_of_row _ _ 0 _ _ _ hSw).trans rfl); go_simp; try with_reducible rfl
  simp only [Act.put, List.setIfInBounds_toArray, List.set_cons_zero, List.set_cons_succ]
  refine rgTake (i := 11) (N := some 23) (oi := { dst := some 23, op := Op.load 24 (Operand.tmp 5), type := 24, pos := "law.go:23", after := #[{ on := 7, ground := Ground.guard }], guard := some (7, true) }) (v := _) #[true, true, true, true, true, true, true, true, true, true, false, true, false, false, false, false, false, false, false, false, false, false, false, false, false, false, false, false, false, false, false, false, false, false, false, false, false, false, false, false] rfl rfl (by kernel_rfl) (fun _ _ _ h => h) (yieldsRow (by rfl) _ _ rfl _ rfl (fun _ h => h) Try.underlying24 rfl infoFree) hHeld ?_
  simp only [Act.put, List.setIfInBounds_toArray, List.set_cons_zero, List.set_cons_succ]
  refine rgTake (i := 12) (N := some 24) (oi := { dst := some 24, op := Op.move (Operand.tmp 0), type := 3, pos := "law.go:23", after := #[{ on := 7, ground := Ground.guard }], guard := some (7, true) }) (v := ?_) #[true, true, true, true, true, true, true, true, true, true, false, true, true, false, false, false, false, false, false, false, false, false, false, false, false, false, false, false, false, false, false, false, false, false, false, false, false, false, false, false] rfl rfl (by kernel_rfl) (fun _ _ _ h => h) (Or.inl ⟨by rfl, ?_⟩) hHeld ?_
  rotate_left
  · intro w' hSw; (try dsimp only at hSw); (have s0 := (cell_of_row _ _ 0 _ _ _ hSw).trans rfl); go_simp; try with_reducible rfl
  simp only [Act.put, List.setIfInBounds_toArray, List.set_cons_zero, List.set_cons_succ]
  refine rgCall (i := 10) (N := some 22) (oi := { dst := some 22, op := Op.call { callee := Callee.value (Operand.func 18), args := #[Operand.tmp 20, Operand.tmp 21], argTypes := #[24, 3] }, type := 4, pos := "law.go:23", after := #[{ on := 8, ground := Ground.data }, { on := 9, ground := Ground.data }, { on := 7, ground := Ground.chain }, { on := 7, ground := Ground.guard }], guard := some (7, true) }) #[true, true, true, true, true, true, true, true, true, true, true, true, true, false, false, false, false, false, false, false, false, false, false, false, false, false, false, false, false, false, false, false, false, false, false, false, false, false, false, false] rfl rfl (by kernel_rfl) (fun K hK => ?_)
  go_simp
  (go_at_call 18; refine (right_any A n c h N _ xs _ (HR.out.below HB.out.1) hnm).mono ?_; rintro e w1 ⟨rfl, hb⟩; replace HB := keepB HB hb)
  refine hK.out _ _ (keepA hHeld hb).out (fun hHeld => ?_)
  (try simp only [Act.put, List.setIfInBounds_toArray, List.set_cons_zero, List.set_cons_succ])
  clear hK K
  refine rgCall (i := 13) (N := some 25) (oi := { dst := some 25, op := Op.call { callee := Callee.value (Operand.func 19), args := #[Operand.tmp 23, Operand.tmp 24], argTypes := #[24, 3] }, type := 4, pos := "law.go:23", after := #[{ on := 11, ground := Ground.data }, { on := 12, ground := Ground.data }, { on := 10, ground := Ground.chain }, { on := 7, ground := Ground.guard }], guard := some (7, true) }) #[true, true, true, true, true, true, true, true, true, true, true, true, true, true, false, false, false, false, false, false, false, false, false, false, false, false, false, false, false, false, false, false, false, false, false, false, false, false, false, false] rfl rfl (by kernel_rfl) (fun K hK => ?_)
  go_simp
  (go_at_call 19; refine (rright_any A n c h N _ xs _ (HR.out.below HB.out.1) hnm).mono ?_; rintro e w1 ⟨rfl, hb⟩; replace HB := keepB HB hb)
  refine hK.out _ _ (keepA hHeld hb).out (fun hHeld => ?_)
  (try simp only [Act.put, List.setIfInBounds_toArray, List.set_cons_zero, List.set_cons_succ])
  clear hK K
  refine rgTake (i := 14) (N := some 26) (oi := { dst := some 26, op := Op.binOp BinOp.eql 4 (Operand.tmp 22) (Operand.tmp 25) 4, type := 4, pos := "law.go:23", after := #[{ on := 10, ground := Ground.data }, { on := 13, ground := Ground.data }, { on := 7, ground := Ground.guard }], guard := some (7, true) }) (v := ?_) #[true, true, true, true, true, true, true, true, true, true, true, true, true, true, true, false, false, false, false, false, false, false, false, false, false, false, false, false, false, false, false, false, false, false, false, false, false, false, false, false] rfl rfl (by kernel_rfl) (fun _ _ _ h => h) (Or.inl ⟨by rfl, ?_⟩) hHeld ?_
  rotate_left
  · intro w' hSw; (try dsimp only at hSw); (have s0 := (cell_of_row _ _ 0 _ _ _ hSw).trans rfl); go_simp; try with_reducible rfl
  simp only [Act.put, List.setIfInBounds_toArray, List.set_cons_zero, List.set_cons_succ]
  refine rgTake (i := 15) (N := some 27) (oi := { dst := some 27, op := Op.pick (Operand.tmp 19) (Operand.tmp 26) (Operand.const (Value.bool false)), type := 4, pos := "law.go:23", after := #[{ on := 7, ground := Ground.data }, { on := 14, ground := Ground.data }], guard := none }) (v := ?_) #[true, true, true, true, true, true, true, true, true, true, true, true, true, true, true, true, false, false, false, false, false, false, false, false, false, false, false, false, false, false, false, false, false, false, false, false, false, false, false, false] rfl rfl (by kernel_rfl) (fun _ _ _ h => h) (Or.inl ⟨by rfl, ?_⟩) hHeld ?_
  rotate_left
  · intro w' hSw; (try dsimp only at hSw); (have s0 := (cell_of_row _ _ 0 _ _ _ hSw).trans rfl); go_simp; try with_reducible rfl
  simp only [Act.put, List.setIfInBounds_toArray, List.set_cons_zero, List.set_cons_succ]
  refine rgTake (i := 16) (N := some 28) (oi := { dst := some 28, op := Op.move (Operand.tmp 27), type := 4, pos := "law.go:23", after := #[{ on := 15, ground := Ground.data }, { on := 13, ground := Ground.chain }], guard := none }) (v := ?_) #[true, true, true, true, true, true, true, true, true, true, true, true, true, true, true, true, true, false, false, false, false, false, false, false, false, false, false, false, false, false, false, false, false, false, false, false, false, false, false, false] rfl rfl (by kernel_rfl) (fun _ _ _ h => h) (Or.inl ⟨by rfl, ?_⟩) hHeld ?_
  rotate_left
  · intro w' hSw; (try dsimp only at hSw); (have s0 := (cell_of_row _ _ 0 _ _ _ hSw).trans rfl); go_simp; try with_reducible rfl
  simp only [Act.put, List.setIfInBounds_toArray, List.set_cons_zero, List.set_cons_succ]
  refine rgTake (i := 17) (N := some 29) (oi := { dst := some 29, op := Op.load 24 (Operand.tmp 5), type := 24, pos := "law.go:23", after := #[{ on := 16, ground := Ground.guard }], guard := some (16, true) }) (v := _) #[true, true, true, true, true, true, true, true, true, true, true, true, true, true, true, true, true, true, false, false, false, false, false, false, false, false, false, false, false, false, false, false, false, false, false, false, false, false, false, false] rfl rfl (by kernel_rfl) (fun _ _ _ h => h) (yieldsRow (by rfl) _ _ rfl _ rfl (fun _ h => h) Try.underlying24 rfl infoFree) hHeld ?_
  simp only [Act.put, List.setIfInBounds_toArray, List.set_cons_zero, List.set_cons_succ]
  refine rgTake (i := 18) (N := some 30) (oi := { dst := some 30, op := Op.fieldAddr 24 (Operand.tmp 5) 0, type := 0, pos := "law.go:23", after := #[{ on := 16, ground := Ground.guard }], guard := some (16, true) }) (v := ?_) #[true, true, true, true, true, true, true, true, true, true, true, true, true, true, true, true, true, true, true, false, false, false, false, false, false, false, false, false, false, false, false, false, false, false, false, false, false, false, false, false] rfl rfl (by kernel_rfl) (fun _ _ _ h => h) (Or.inl ⟨by rfl, ?_⟩) hHeld ?_
  rotate_left
  · intro w' hSw; (try dsimp only at hSw); (have s0 := (cell_of_row _ _ 0 _ _ _ hSw).trans rfl); go_simp; try with_reducible rfl
  simp only [Act.put, List.setIfInBounds_toArray, List.set_cons_zero, List.set_cons_succ]
  refine rgTake (i := 19) (N := some 31) (oi := { dst := some 31, op := Op.load 22 (Operand.tmp 30), type := 22, pos := "law.go:23", after := #[{ on := 18, ground := Ground.data }, { on := 16, ground := Ground.guard }], guard := some (16, true) }) (v := ?_) #[true, true, true, true, true, true, true, true, true, true, true, true, true, true, true, true, true, true, true, true, false, false, false, false, false, false, false, false, false, false, false, false, false, false, false, false, false, false, false, false] rfl rfl (by kernel_rfl) (fun _ _ _ h => h) (Or.inl ⟨by rfl, ?_⟩) hHeld ?_
  rotate_left
  · intro w' hSw; (try dsimp only at hSw); (have s0 := (cell_of_row _ _ 0 _ _ _ hSw).trans rfl); go_simp; try with_reducible rfl
  simp only [Act.put, List.setIfInBounds_toArray, List.set_cons_zero, List.set_cons_succ]
  refine rgTake (i := 20) (N := some 32) (oi := { dst := some 32, op := Op.call { callee := Callee.builtin Builtin.len, args := #[Operand.tmp 31], argTypes := #[22] }, type := 3, pos := "law.go:23", after := #[{ on := 19, ground := Ground.data }, { on := 16, ground := Ground.guard }], guard := some (16, true) }) (v := ?_) #[true, true, true, true, true, true, true, true, true, true, true, true, true, true, true, true, true, true, true, true, true, false, false, false, false, false, false, false, false, false, false, false, false, false, false, false, false, false, false, false] rfl rfl (by kernel_rfl) (fun _ _ _ h => h) (Or.inl ⟨by rfl, ?_⟩) hHeld ?_
  rotate_left
  · intro w' hSw; (try dsimp only at hSw); (have s0 := (cell_of_row _ _ 0 _ _ _ hSw).trans rfl); go_simp; try with_reducible rfl
  simp only [Act.put, List.setIfInBounds_toArray, List.set_cons_zero, List.set_cons_succ]
  refine rgTake (i := 22) (N := some 34) (oi := { dst := some 34, op := Op.load 24 (Operand.tmp 5), type := 24, pos := "law.go:23", after := #[{ on := 16, ground := Ground.guard }], guard := some (16, true) }) (v := _) #[true, true, true, true, true, true, true, true, true, true, true, true, true, true, true, true, true, true, true, true, true, false, true, false, false, false, false, false, false, false, false, false, false, false, false, false, false, false, false, false] rfl rfl (by kernel_rfl) (fun _ _ _ h => h) (yieldsRow (by rfl) _ _ rfl _ rfl (fun _ h => h) Try.underlying24 rfl infoFree) hHeld ?_
  simp only [Act.put, List.setIfInBounds_toArray, List.set_cons_zero, List.set_cons_succ]
  refine rgTake (i := 23) (N := some 35) (oi := { dst := some 35, op := Op.fieldAddr 24 (Operand.tmp 5) 0, type := 0, pos := "law.go:23", after := #[{ on := 16, ground := Ground.guard }], guard := some (16, true) }) (v := ?_) #[true, true, true, true, true, true, true, true, true, true, true, true, true, true, true, true, true, true, true, true, true, false, true, true, false, false, false, false, false, false, false, false, false, false, false, false, false, false, false, false] rfl rfl (by kernel_rfl) (fun _ _ _ h => h) (Or.inl ⟨by rfl, ?_⟩) hHeld ?_
  rotate_left
  · intro w' hSw; (try dsimp only at hSw); (have s0 := (cell_of_row _ _ 0 _ _ _ hSw).trans rfl); go_simp; try with_reducible rfl
  simp only [Act.put, List.setIfInBounds_toArray, List.set_cons_zero, List.set_cons_succ]
  refine rgTake (i := 24) (N := some 36) (oi := { dst := some 36, op := Op.load 22 (Operand.tmp 35), type := 22, pos := "law.go:23", after := #[{ on := 23, ground := Ground.data }, { on := 16, ground := Ground.guard }], guard := some (16, true) }) (v := ?_) #[true, true, true, true, true, true, true, true, true, true, true, true, true, true, true, true, true, true, true, true, true, false, true, true, true, false, false, false, false, false, false, false, false, false, false, false, false, false, false, false] rfl rfl (by kernel_rfl) (fun _ _ _ h => h) (Or.inl ⟨by rfl, ?_⟩) hHeld ?_
  rotate_left
  · intro w' hSw; (try dsimp only at hSw); (have s0 := (cell_of_row _ _ 0 _ _ _ hSw).trans rfl); go_simp; try with_reducible rfl
  simp only [Act.put, List.setIfInBounds_toArray, List.set_cons_zero, List.set_cons_succ]
  refine rgTake (i := 25) (N := some 37) (oi := { dst := some 37, op := Op.call { callee := Callee.builtin Builtin.len, args := #[Operand.tmp 36], argTypes := #[22] }, type := 3, pos := "law.go:23", after := #[{ on := 24, ground := Ground.data }, { on := 16, ground := Ground.guard }], guard := some (16, true) }) (v := ?_) #[true, true, true, true, true, true, true, true, true, true, true, true, true, true, true, true, true, true, true, true, true, false, true, true, true, true, false, false, false, false, false, false, false, false, false, false, false, false, false, false] rfl rfl (by kernel_rfl) (fun _ _ _ h => h) (Or.inl ⟨by rfl, ?_⟩) hHeld ?_
  rotate_left
  · intro w' hSw; (try dsimp only at hSw); (have s0 := (cell_of_row _ _ 0 _ _ _ hSw).trans rfl); go_simp; try with_reducible rfl
  simp only [Act.put, List.setIfInBounds_toArray, List.set_cons_zero, List.set_cons_succ]
  refine rgCall (i := 21) (N := some 33) (oi := { dst := some 33, op := Op.call { callee := Callee.value (Operand.func 18), args := #[Operand.tmp 29, Operand.tmp 32], argTypes := #[24, 3] }, type := 4, pos := "law.go:23", after := #[{ on := 17, ground := Ground.data }, { on := 20, ground := Ground.data }, { on := 16, ground := Ground.chain }, { on := 16, ground := Ground.guard }], guard := some (16, true) }) #[true, true, true, true, true, true, true, true, true, true, true, true, true, true, true, true, true, true, true, true, true, true, true, true, true, true, false, false, false, false, false, false, false, false, false, false, false, false, false, false] rfl rfl (by kernel_rfl) (fun K hK => ?_)
  go_simp
  (go_at_call 18; refine (right_any A n c h N _ xs _ (HR.out.below HB.out.1) hnm).mono ?_; rintro e w1 ⟨rfl, hb⟩; replace HB := keepB HB hb)
  refine hK.out _ _ (keepA hHeld hb).out (fun hHeld => ?_)
  (try simp only [Act.put, List.setIfInBounds_toArray, List.set_cons_zero, List.set_cons_succ])
  clear hK K
  refine rgCall (i := 26) (N := some 38) (oi := { dst := some 38, op := Op.call { callee := Callee.value (Operand.func 19), args := #[Operand.tmp 34, Operand.tmp 37], argTypes := #[24, 3] }, type := 4, pos := "law.go:23", after := #[{ on := 22, ground := Ground.data }, { on := 25, ground := Ground.data }, { on := 21, ground := Ground.chain }, { on := 16, ground := Ground.guard }], guard := some (16, true) }) #[true, true, true, true, true, true, true, true, true, true, true, true, true, true, true, true, true, true, true, true, true, true, true, true, true, true, true, false, false, false, false, false, false, false, false, false, false, false, false, false] rfl rfl (by kernel_rfl) (fun K hK => ?_)
  go_simp
  (go_at_call 19; refine (rright_any A n c h N _ xs _ (HR.out.below HB.out.1) hnm).mono ?_; rintro e w1 ⟨rfl, hb⟩; replace HB := keepB HB hb)
  refine hK.out _ _ (keepA hHeld hb).out (fun hHeld => ?_)
  (try simp only [Act.put, List.setIfInBounds_toArray, List.set_cons_zero, List.set_cons_succ])
  clear hK K
  refine rgTake (i := 27) (N := some 39) (oi := { dst := some 39, op := Op.binOp BinOp.eql 4 (Operand.tmp 33) (Operand.tmp 38) 4, type := 4, pos := "law.go:23", after := #[{ on := 21, ground := Ground.data }, { on := 26, ground := Ground.data }, { on := 16, ground := Ground.guard }], guard := some (16, true) }) (v := ?_) #[true, true, true, true, true, true, true, true, true, true, true, true, true, true, true, true, true, true, true, true, true, true, true, true, true, true, true, true, false, false, false, false, false, false, false, false, false, false, false, false] rfl rfl (by kernel_rfl) (fun _ _ _ h => h) (Or.inl ⟨by rfl, ?_⟩) hHeld ?_
  rotate_left
  · intro w' hSw; (try dsimp only at hSw); (have s0 := (cell_of_row _ _ 0 _ _ _ hSw).trans rfl); go_simp; try with_reducible rfl
  simp only [Act.put, List.setIfInBounds_toArray, List.set_cons_zero, List.set_cons_succ]
  refine rgTake (i := 28) (N := some 40) (oi := { dst := some 40, op := Op.pick (Operand.tmp 28) (Operand.tmp 39) (Operand.const (Value.bool false)), type := 4, pos := "law.go:23", after := #[{ on := 16, ground := Ground.data }, { on := 27, ground := Ground.data }], guard := none }) (v := ?_) #[true, true, true, true, true, true, true, true, true, true, true, true, true, true, true, true, true, true, true, true, true, true, true, true, true, true, true, true, true, false, false, false, false, false, false, false, false, false, false, false] rfl rfl (by kernel_rfl) (fun _ _ _ h => h) (Or.inl ⟨by rfl, ?_⟩) hHeld ?_
  rotate_left
  · intro w' hSw; (try dsimp only at hSw); (have s0 := (cell_of_row _ _ 0 _ _ _ hSw).trans rfl); go_simp; try with_reducible rfl
  simp only [Act.put, List.setIfInBounds_toArray, List.set_cons_zero, List.set_cons_succ]
  refine rgTake (i := 29) (N := some 41) (oi := { dst := some 41, op := Op.move (Operand.tmp 40), type := 4, pos := "law.go:23", after := #[{ on := 28, ground := Ground.data }, { on := 26, ground := Ground.chain }], guard := none }) (v := ?_) #[true, true, true, true, true, true, true, true, true, true, true, true, true, true, true, true, true, true, true, true, true, true, true, true, true, true, true, true, true, true, false, false, false, false, false, false, false, false, false, false] rfl rfl (by kernel_rfl) (fun _ _ _ h => h) (Or.inl ⟨by rfl, ?_⟩) hHeld ?_
  rotate_left
  · intro w' hSw; (try dsimp only at hSw); (have s0 := (cell_of_row _ _ 0 _ _ _ hSw).trans rfl); go_simp; try with_reducible rfl
  simp only [Act.put, List.setIfInBounds_toArray, List.set_cons_zero, List.set_cons_succ]
  refine rgTake (i := 30) (N := some 42) (oi := { dst := some 42, op := Op.load 24 (Operand.tmp 5), type := 24, pos := "law.go:23", after := #[{ on := 29, ground := Ground.guard }], guard := some (29, true) }) (v := _) #[true, true, true, true, true, true, true, true, true, true, true, true, true, true, true, true, true, true, true, true, true, true, true, true, true, true, true, true, true, true, true, false, false, false, false, false, false, false, false, false] rfl rfl (by kernel_rfl) (fun _ _ _ h => h) (yieldsRow (by rfl) _ _ rfl _ rfl (fun _ h => h) Try.underlying24 rfl infoFree) hHeld ?_
  simp only [Act.put, List.setIfInBounds_toArray, List.set_cons_zero, List.set_cons_succ]
  refine rgTake (i := 32) (N := some 44) (oi := { dst := some 44, op := Op.load 24 (Operand.tmp 5), type := 24, pos := "law.go:23", after := #[{ on := 29, ground := Ground.guard }], guard := some (29, true) }) (v := _) #[true, true, true, true, true, true, true, true, true, true, true, true, true, true, true, true, true, true, true, true, true, true, true, true, true, true, true, true, true, true, true, false, true, false, false, false, false, false, false, false] rfl rfl (by kernel_rfl) (fun _ _ _ h => h) (yieldsRow (by rfl) _ _ rfl _ rfl (fun _ h => h) Try.underlying24 rfl infoFree) hHeld ?_
  simp only [Act.put, List.setIfInBounds_toArray, List.set_cons_zero, List.set_cons_succ]
  refine rgCall (i := 31) (N := some 43) (oi := { dst := some 43, op := Op.call { callee := Callee.value (Operand.func 15), args := #[Operand.tmp 42], argTypes := #[24] }, type := 22, pos := "law.go:23", after := #[{ on := 30, ground := Ground.data }, { on := 29, ground := Ground.chain }, { on := 29, ground := Ground.guard }], guard := some (29, true) }) #[true, true, true, true, true, true, true, true, true, true, true, true, true, true, true, true, true, true, true, true, true, true, true, true, true, true, true, true, true, true, true, true, true, false, false, false, false, false, false, false] rfl rfl (by kernel_rfl) (fun K hK => ?_)
  go_simp
  (go_at_call 15; refine (list_any A n c h N xs _ (HR.out.below HB.out.1) hnm).mono ?_; rintro e w1 ⟨⟨A3, c3, rfl, hr⟩, hb⟩; replace HB := keepB HB hb; have H3 := Lib.hid hr)
  refine hK.out _ _ (keepA hHeld hb).out (fun hHeld => ?_)
  (try simp only [Act.put, List.setIfInBounds_toArray, List.set_cons_zero, List.set_cons_succ])
  clear hK K
  refine rgCall (i := 33) (N := some 45) (oi := { dst := some 45, op := Op.call { callee := Callee.value (Operand.func 20), args := #[Operand.tmp 44], argTypes := #[24] }, type := 22, pos := "law.go:23", after := #[{ on := 32, ground := Ground.data }, { on := 31, ground := Ground.chain }, { on := 29, ground := Ground.guard }], guard := some (29, true) }) #[true, true, true, true, true, true, true, true, true, true, true, true, true, true, true, true, true, true, true, true, true, true, true, true, true, true, true, true, true, true, true, true, true, true, false, false, false, false, false, false] rfl rfl (by kernel_rfl) (fun K hK => ?_)
  go_simp
  (go_at_call 20; refine (rlist_any A n c h N xs _ (HR.out.below HB.out.1) hnm).mono ?_; rintro e w1 ⟨⟨A4, c4, rfl, hr⟩, hb⟩; replace HB := keepB HB hb; replace H3 := Lib.hid (H3.out.below hb); have H4 := Lib.hid hr)
  refine hK.out _ _ (keepA hHeld hb).out (fun hHeld => ?_)
  (try simp only [Act.put, List.setIfInBounds_toArray, List.set_cons_zero, List.set_cons_succ])
  clear hK K
  refine rgCall (i := 34) (N := some 46) (oi := { dst := some 46, op := Op.call { callee := Callee.value (Operand.func 16), args := #[Operand.tmp 43, Operand.tmp 45], argTypes := #[22, 22] }, type := 4, pos := "law.go:23", after := #[{ on := 31, ground := Ground.data }, { on := 33, ground := Ground.data }, { on := 33, ground := Ground.chain }, { on := 29, ground := Ground.guard }], guard := some (29, true) }) #[true, true, true, true, true, true, true, true, true, true, true, true, true, true, true, true, true, true, true, true, true, true, true, true, true, true, true, true, true, true, true, true, true, true, true, false, false, false, false, false] rfl rfl (by kernel_rfl) (fun K hK => ?_)
  go_simp
  (go_at_call 16; refine (ints_any _ _ _ _ _ _ _ H3.out H4.out HLL.out).mono ?_; rintro e w1 ⟨rfl, hb⟩; replace HB := keepB HB hb)
  refine hK.out _ _ (keepA hHeld hb).out (fun hHeld => ?_)
  (try simp only [Act.put, List.setIfInBounds_toArray, List.set_cons_zero, List.set_cons_succ])
  clear hK K
  refine rgTake (i := 35) (N := some 47) (oi := { dst := some 47, op := Op.pick (Operand.tmp 41) (Operand.tmp 46) (Operand.const (Value.bool false)), type := 4, pos := "law.go:23", after := #[{ on := 29, ground := Ground.data }, { on := 34, ground := Ground.data }], guard := none }) (v := ?_) #[true, true, true, true, true, true, true, true, true, true, true, true, true, true, true, true, true, true, true, true, true, true, true, true, true, true, true, true, true, true, true, true, true, true, true, true, false, false, false, false] rfl rfl (by kernel_rfl) (fun _ _ _ h => h) (Or.inl ⟨by rfl, ?_⟩) hHeld ?_
  rotate_left
  · intro w' hSw; (try dsimp only at hSw); (have s0 := (cell_of_row _ _ 0 _ _ _ hSw).trans rfl); go_simp; try with_reducible rfl
  simp only [Act.put, List.setIfInBounds_toArray, List.set_cons_zero, List.set_cons_succ]
  refine rgTake (i := 36) (N := some 48) (oi := { dst := some 48, op := Op.move (Operand.tmp 47), type := 4, pos := "law.go:23", after := #[{ on := 35, ground := Ground.data }, { on := 34, ground := Ground.chain }], guard := none }) (v := ?_) #[true, true, true, true, true, true, true, true, true, true, true, true, true, true, true, true, true, true, true, true, true, true, true, true, true, true, true, true, true, true, true, true, true, true, true, true, true, false, false, false] rfl rfl (by kernel_rfl) (fun _ _ _ h => h) (Or.inl ⟨by rfl, ?_⟩) hHeld ?_
  rotate_left
  · intro w' hSw; (try dsimp only at hSw); (have s0 := (cell_of_row _ _ 0 _ _ _ hSw).trans rfl); go_simp; try with_reducible rfl
  simp only [Act.put, List.setIfInBounds_toArray, List.set_cons_zero, List.set_cons_succ]
  refine rgCall (i := 37) (N := some 49) (oi := { dst := some 49, op := Op.call { callee := Callee.value (Operand.func 6), args := #[], argTypes := #[] }, type := 4, pos := "law.go:23", after := #[{ on := 36, ground := Ground.chain }, { on := 36, ground := Ground.guard }], guard := some (36, true) }) #[true, true, true, true, true, true, true, true, true, true, true, true, true, true, true, true, true, true, true, true, true, true, true, true, true, true, true, true, true, true, true, true, true, true, true, true, true, true, false, false] rfl rfl (by kernel_rfl) (fun K hK => ?_)
  go_simp
  (go_at_call 6; refine (awake_any _).mono ?_; rintro e w1 ⟨rfl, hb⟩; replace HB := keepB HB hb)
  refine hK.out _ _ (keepA hHeld hb).out (fun hHeld => ?_)
  (try simp only [Act.put, List.setIfInBounds_toArray, List.set_cons_zero, List.set_cons_succ])
  clear hK K
  refine rgTake (i := 38) (N := some 50) (oi := { dst := some 50, op := Op.pick (Operand.tmp 48) (Operand.tmp 49) (Operand.const (Value.bool false)), type := 4, pos := "law.go:23", after := #[{ on := 36, ground := Ground.data }, { on := 37, ground := Ground.data }], guard := none }) (v := ?_) #[true, true, true, true, true, true, true, true, true, true, true, true, true, true, true, true, true, true, true, true, true, true, true, true, true, true, true, true, true, true, true, true, true, true, true, true, true, true, true, false] rfl rfl (by kernel_rfl) (fun _ _ _ h => h) (Or.inl ⟨by rfl, ?_⟩) hHeld ?_
  rotate_left
  · intro w' hSw; (try dsimp only at hSw); (have s0 := (cell_of_row _ _ 0 _ _ _ hSw).trans rfl); go_simp; try with_reducible rfl
  simp only [Act.put, List.setIfInBounds_toArray, List.set_cons_zero, List.set_cons_succ]
  refine rgTake (i := 39) (N := some 6) (oi := { dst := some 6, op := Op.assign (Operand.tmp 50), type := 4, pos := "law.go:23", after := #[{ on := 38, ground := Ground.data }, { on := 37, ground := Ground.chain }, { on := 0, ground := Ground.phase }, { on := 1, ground := Ground.phase }, { on := 2, ground := Ground.phase }, { on := 3, ground := Ground.phase }, { on := 4, ground := Ground.phase }, { on := 5, ground := Ground.phase }, { on := 6, ground := Ground.phase }, { on := 7, ground := Ground.phase }, { on := 8, ground := Ground.phase }, { on := 9, ground := Ground.phase }, { on := 10, ground := Ground.phase }, { on := 11, ground := Ground.phase }, { on := 12, ground := Ground.phase }, { on := 13, ground := Ground.phase }, { on := 14, ground := Ground.phase }, { on := 15, ground := Ground.phase }, { on := 16, ground := Ground.phase }, { on := 17, ground := Ground.phase }, { on := 18, ground := Ground.phase }, { on := 19, ground := Ground.phase }, { on := 20, ground := Ground.phase }, { on := 21, ground := Ground.phase }, { on := 22, ground := Ground.phase }, { on := 23, ground := Ground.phase }, { on := 24, ground := Ground.phase }, { on := 25, ground := Ground.phase }, { on := 26, ground := Ground.phase }, { on := 27, ground := Ground.phase }, { on := 28, ground := Ground.phase }, { on := 29, ground := Ground.phase }, { on := 30, ground := Ground.phase }, { on := 31, ground := Ground.phase }, { on := 32, ground := Ground.phase }, { on := 33, ground := Ground.phase }, { on := 34, ground := Ground.phase }, { on := 35, ground := Ground.phase }, { on := 36, ground := Ground.phase }, { on := 37, ground := Ground.phase }, { on := 38, ground := Ground.phase }], guard := none }) (v := ?_) #[true, true, true, true, true, true, true, true, true, true, true, true, true, true, true, true, true, true, true, true, true, true, true, true, true, true, true, true, true, true, true, true, true, true, true, true, true, true, true, true] rfl rfl (by kernel_rfl) (fun _ _ _ h => h) (Or.inl ⟨by rfl, ?_⟩) hHeld ?_
  rotate_left
  · intro w' hSw; (try dsimp only at hSw); (have s0 := (cell_of_row _ _ 0 _ _ _ hSw).trans rfl); go_simp; try with_reducible rfl
  simp only [Act.put, List.setIfInBounds_toArray, List.set_cons_zero, List.set_cons_succ]
  refine rgDone (by kernel_rfl) ?_ _
  go_wp2
  go_ret
  exact ⟨rfl, HB.out.1⟩
theorem makes_any (A : Option Addr) (n c : Nat) (h N q u : Int) (xs : List Int) (w : World) (hr : RdA .i64 w A n xs) : Calls Try.prog 5 #[.int .i64 q, .int .i64 u, .agg #[.slice A n c, .int .i64 h, .int .i64 N]] w fun e w' => e = .returned (.bool true) ∧ Below w.heap.size w w' := by
  by_cases hn : 120 < n
  · exact makes_long A n c h N q u w hn
  · exact makes_walk A n c h N q u xs w hr hn
end Go.Proofs.Ytpljolhcikbejaa.My
