/- The law of steps, and the law of parts. -/
import Derived.Test.YtimcdkmbiggapaaDivRef
namespace Go.Proofs.Ytimcdkmbiggapaa.My
open Go.RowKit

set_option maxHeartbeats 4000000 in
theorem steps_any (s : DV) (a b : Int) (w : World) (h : okD s) : Calls Try.prog 3 #[.agg #[.int .u32 s.n, .int .u32 s.d, .int .u32 s.q, .int .u32 s.r, .int .i64 s.l], .int .u32 a, .int .u32 b] w fun e w' => e = .returned (.bool true) ∧ Below w.heap.size w w' := by
  have HB := keepB1 (keepBa (startB w) (.cells #[.int .u32 s.n, .int .u32 s.d, .int .u32 s.q, .int .u32 s.r, .int .i64 s.l] 24))
  have HA : Hid ((w.alloc (.cells #[.int .u32 s.n, .int .u32 s.d, .int .u32 s.q, .int .u32 s.r, .int .i64 s.l] 24)).drew.heap[w.heap.size]? = some (.cells #[.int .u32 s.n, .int .u32 s.d, .int .u32 s.q, .int .u32 s.r, .int .i64 s.l] 24 (0, 0))) := heap_alloc_new _ _
  have HOK := Lib.hid h
  clear h
  go_enter Try.func3, Try.ntmps3
  go_wp2
  refine rgStart (S := (fun w' => w'.heap[w.heap.size]? = some (.cells #[.int .u32 s.n, .int .u32 s.d, .int .u32 s.q, .int .u32 s.r, .int .i64 s.l] 24 (0, 0)))) (n := 21) #[false, false, false, false, false, false, false, false, false, false, false, false, false, false, false, false, false, false, false, false, false] (by kernel_rfl) rfl rfl HA.out (fun hHeld => ?_)
  refine rgTake (i := 0) (N := some 7) (oi := { dst := some 7, op := Op.load 24 (Operand.tmp 3), type := 24, pos := "law.go:25", after := #[], guard := none }) (v := _) #[true, false, false, false, false, false, false, false, false, false, false, false, false, false, false, false, false, false, false, false, false] rfl rfl (by kernel_rfl) (fun _ _ _ h => h) (yieldsRow (by rfl) _ _ rfl _ rfl (fun _ h => h) Try.underlying24 rfl infoRef) hHeld ?_
  simp only [Act.put, List.setIfInBounds_toArray, List.set_cons_zero, List.set_cons_succ]
  refine rgTake (i := 4) (N := some 11) (oi := { dst := some 11, op := Op.load 24 (Operand.tmp 3), type := 24, pos := "law.go:25", after := #[], guard := none }) (v := _) #[true, false, false, false, true, false, false, false, false, false, false, false, false, false, false, false, false, false, false, false, false] rfl rfl (by kernel_rfl) (fun _ _ _ h => h) (yieldsRow (by rfl) _ _ rfl _ rfl (fun _ h => h) Try.underlying24 rfl infoRef) hHeld ?_
  simp only [Act.put, List.setIfInBounds_toArray, List.set_cons_zero, List.set_cons_succ]
  refine rgCall (i := 1) (N := some 8) (oi := { dst := some 8, op := Op.call { callee := Callee.value (Operand.func 10), args := #[Operand.tmp 7], argTypes := #[24] }, type := 26, pos := "law.go:25", after := #[{ on := 0, ground := Ground.data }], guard := none }) #[true, true, false, false, true, false, false, false, false, false, false, false, false, false, false, false, false, false, false, false, false] rfl rfl (by kernel_rfl) (fun K hK => ?_)
  go_simp
  (go_at_call 10; refine (to_any _ _ _ _ _ _).mono ?_; rintro e w1 ⟨rfl, hb⟩; (replace HB := keepB HB hb))
  refine hK.out _ _ (keepA hHeld hb).out (fun hHeld => ?_)
  (try simp only [Act.put, List.setIfInBounds_toArray, List.set_cons_zero, List.set_cons_succ])
  clear hK K
  refine rgCall (i := 2) (N := some 9) (oi := { dst := some 9, op := Op.call { callee := Callee.value (Operand.func 9), args := #[Operand.tmp 8], argTypes := #[26] }, type := 26, pos := "law.go:25", after := #[{ on := 1, ground := Ground.data }, { on := 1, ground := Ground.chain }], guard := none }) #[true, true, true, false, true, false, false, false, false, false, false, false, false, false, false, false, false, false, false, false, false] rfl rfl (by kernel_rfl) (fun K hK => ?_)
  go_simp
  (go_at_call 9; refine (step_any s _ HOK.out).mono ?_; rintro e w1 ⟨rfl, hb⟩; (replace HB := keepB HB hb))
  refine hK.out _ _ (keepA hHeld hb).out (fun hHeld => ?_)
  (try simp only [Act.put, List.setIfInBounds_toArray, List.set_cons_zero, List.set_cons_succ])
  clear hK K
  refine rgCall (i := 3) (N := some 10) (oi := { dst := some 10, op := Op.call { callee := Callee.value (Operand.func 8), args := #[Operand.tmp 9], argTypes := #[26] }, type := 24, pos := "law.go:25", after := #[{ on := 2, ground := Ground.data }, { on := 2, ground := Ground.chain }], guard := none }) #[true, true, true, true, true, false, false, false, false, false, false, false, false, false, false, false, false, false, false, false, false] rfl rfl (by kernel_rfl) (fun K hK => ?_)
  go_simp
  (go_at_call 8; refine (of_any _ _ _ _ _ _).mono ?_; rintro e w1 ⟨rfl, hb⟩; (replace HB := keepB HB hb))
  refine hK.out _ _ (keepA hHeld hb).out (fun hHeld => ?_)
  (try simp only [Act.put, List.setIfInBounds_toArray, List.set_cons_zero, List.set_cons_succ])
  clear hK K
  refine rgCall (i := 5) (N := some 12) (oi := { dst := some 12, op := Op.call { callee := Callee.value (Operand.func 11), args := #[Operand.tmp 11], argTypes := #[24] }, type := 24, pos := "law.go:25", after := #[{ on := 4, ground := Ground.data }, { on := 3, ground := Ground.chain }], guard := none }) #[true, true, true, true, true, true, false, false, false, false, false, false, false, false, false, false, false, false, false, false, false] rfl rfl (by kernel_rfl) (fun K hK => ?_)
  go_simp
  (go_at_call 11; refine (rstep_any s _ HOK.out).mono ?_; rintro e w1 ⟨rfl, hb⟩; (replace HB := keepB HB hb))
  refine hK.out _ _ (keepA hHeld hb).out (fun hHeld => ?_)
  (try simp only [Act.put, List.setIfInBounds_toArray, List.set_cons_zero, List.set_cons_succ])
  clear hK K
  refine rgTake (i := 6) (N := some 13) (oi := { dst := some 13, op := Op.binOp BinOp.eql 24 (Operand.tmp 10) (Operand.tmp 12) 24, type := 4, pos := "law.go:25", after := #[{ on := 3, ground := Ground.data }, { on := 5, ground := Ground.data }], guard := none }) (v := ?_) #[true, true, true, true, true, true, true, false, false, false, false, false, false, false, false, false, false, false, false, false, false] rfl rfl (by kernel_rfl) (fun _ _ _ h => h) (Or.inl ⟨by rfl, ?_⟩) hHeld ?_
  rotate_left
  · intro w' hSw; (try dsimp only at hSw); skip; go_simp; try with_reducible rfl
  simp only [Act.put, List.setIfInBounds_toArray, List.set_cons_zero, List.set_cons_succ]
  refine rgTake (i := 7) (N := some 14) (oi := { dst := some 14, op := Op.move (Operand.tmp 13), type := 4, pos := "law.go:25", after := #[{ on := 6, ground := Ground.data }, { on := 5, ground := Ground.chain }], guard := none }) (v := ?_) #[true, true, true, true, true, true, true, true, false, false, false, false, false, false, false, false, false, false, false, false, false] rfl rfl (by kernel_rfl) (fun _ _ _ h => h) (Or.inl ⟨by rfl, ?_⟩) hHeld ?_
  rotate_left
  · intro w' hSw; (try dsimp only at hSw); skip; go_simp; try with_reducible rfl
  simp only [Act.put, List.setIfInBounds_toArray, List.set_cons_zero, List.set_cons_succ]
  refine rgTake (i := 8) (N := some 15) (oi := { dst := some 15, op := Op.move (Operand.tmp 1), type := 22, pos := "law.go:25", after := #[{ on := 7, ground := Ground.guard }], guard := some (7, true) }) (v := ?_) #[true, true, true, true, true, true, true, true, true, false, false, false, false, false, false, false, false, false, false, false, false] rfl rfl (by kernel_rfl) (fun _ _ _ h => h) (Or.inl ⟨by rfl, ?_⟩) hHeld ?_
  rotate_left
  · intro w' hSw; (try dsimp only at hSw); skip; go_simp; try with_reducible rfl
  simp only [Act.put, List.setIfInBounds_toArray, List.set_cons_zero, List.set_cons_succ]
  refine rgTake (i := 9) (N := some 16) (oi := { dst := some 16, op := Op.move (Operand.tmp 2), type := 22, pos := "law.go:25", after := #[{ on := 7, ground := Ground.guard }], guard := some (7, true) }) (v := ?_) #[true, true, true, true, true, true, true, true, true, true, false, false, false, false, false, false, false, false, false, false, false] rfl rfl (by kernel_rfl) (fun _ _ _ h => h) (Or.inl ⟨by rfl, ?_⟩) hHeld ?_
  rotate_left
  · intro w' hSw; (try dsimp only at hSw); skip; go_simp; try with_reducible rfl
  simp only [Act.put, List.setIfInBounds_toArray, List.set_cons_zero, List.set_cons_succ]
  refine rgTake (i := 12) (N := some 19) (oi := { dst := some 19, op := Op.move (Operand.tmp 1), type := 22, pos := "law.go:25", after := #[{ on := 7, ground := Ground.guard }], guard := some (7, true) }) (v := ?_) #[true, true, true, true, true, true, true, true, true, true, false, false, true, false, false, false, false, false, false, false, false] rfl rfl (by kernel_rfl) (fun _ _ _ h => h) (Or.inl ⟨by rfl, ?_⟩) hHeld ?_
  rotate_left
  · intro w' hSw; (try dsimp only at hSw); skip; go_simp; try with_reducible rfl
  simp only [Act.put, List.setIfInBounds_toArray, List.set_cons_zero, List.set_cons_succ]
  refine rgTake (i := 13) (N := some 20) (oi := { dst := some 20, op := Op.move (Operand.tmp 2), type := 22, pos := "law.go:25", after := #[{ on := 7, ground := Ground.guard }], guard := some (7, true) }) (v := ?_) #[true, true, true, true, true, true, true, true, true, true, false, false, true, true, false, false, false, false, false, false, false] rfl rfl (by kernel_rfl) (fun _ _ _ h => h) (Or.inl ⟨by rfl, ?_⟩) hHeld ?_
  rotate_left
  · intro w' hSw; (try dsimp only at hSw); skip; go_simp; try with_reducible rfl
  simp only [Act.put, List.setIfInBounds_toArray, List.set_cons_zero, List.set_cons_succ]
  refine rgCall (i := 10) (N := some 17) (oi := { dst := some 17, op := Op.call { callee := Callee.value (Operand.func 12), args := #[Operand.tmp 15, Operand.tmp 16], argTypes := #[22, 22] }, type := 26, pos := "law.go:25", after := #[{ on := 8, ground := Ground.data }, { on := 9, ground := Ground.data }, { on := 7, ground := Ground.chain }, { on := 7, ground := Ground.guard }], guard := some (7, true) }) #[true, true, true, true, true, true, true, true, true, true, true, false, true, true, false, false, false, false, false, false, false] rfl rfl (by kernel_rfl) (fun K hK => ?_)
  go_simp
  (go_at_call 12; refine (new_any _ _ _).mono ?_; rintro e w1 ⟨rfl, hb⟩; (replace HB := keepB HB hb))
  refine hK.out _ _ (keepA hHeld hb).out (fun hHeld => ?_)
  (try simp only [Act.put, List.setIfInBounds_toArray, List.set_cons_zero, List.set_cons_succ])
  clear hK K
  refine rgCall (i := 11) (N := some 18) (oi := { dst := some 18, op := Op.call { callee := Callee.value (Operand.func 8), args := #[Operand.tmp 17], argTypes := #[26] }, type := 24, pos := "law.go:25", after := #[{ on := 10, ground := Ground.data }, { on := 10, ground := Ground.chain }, { on := 7, ground := Ground.guard }], guard := some (7, true) }) #[true, true, true, true, true, true, true, true, true, true, true, true, true, true, false, false, false, false, false, false, false] rfl rfl (by kernel_rfl) (fun K hK => ?_)
  go_simp
  (go_at_call 8; refine (of_any _ _ _ _ _ _).mono ?_; rintro e w1 ⟨rfl, hb⟩; (replace HB := keepB HB hb))
  refine hK.out _ _ (keepA hHeld hb).out (fun hHeld => ?_)
  (try simp only [Act.put, List.setIfInBounds_toArray, List.set_cons_zero, List.set_cons_succ])
  clear hK K
  refine rgCall (i := 14) (N := some 21) (oi := { dst := some 21, op := Op.call { callee := Callee.value (Operand.func 13), args := #[Operand.tmp 19, Operand.tmp 20], argTypes := #[22, 22] }, type := 24, pos := "law.go:25", after := #[{ on := 12, ground := Ground.data }, { on := 13, ground := Ground.data }, { on := 11, ground := Ground.chain }, { on := 7, ground := Ground.guard }], guard := some (7, true) }) #[true, true, true, true, true, true, true, true, true, true, true, true, true, true, true, false, false, false, false, false, false] rfl rfl (by kernel_rfl) (fun K hK => ?_)
  go_simp
  (go_at_call 13; refine (rnew_any _ _ _).mono ?_; rintro e w1 ⟨rfl, hb⟩; (replace HB := keepB HB hb))
  refine hK.out _ _ (keepA hHeld hb).out (fun hHeld => ?_)
  (try simp only [Act.put, List.setIfInBounds_toArray, List.set_cons_zero, List.set_cons_succ])
  clear hK K
  refine rgTake (i := 15) (N := some 22) (oi := { dst := some 22, op := Op.binOp BinOp.eql 24 (Operand.tmp 18) (Operand.tmp 21) 24, type := 4, pos := "law.go:25", after := #[{ on := 11, ground := Ground.data }, { on := 14, ground := Ground.data }, { on := 7, ground := Ground.guard }], guard := some (7, true) }) (v := ?_) #[true, true, true, true, true, true, true, true, true, true, true, true, true, true, true, true, false, false, false, false, false] rfl rfl (by kernel_rfl) (fun _ _ _ h => h) (Or.inl ⟨by rfl, ?_⟩) hHeld ?_
  rotate_left
  · intro w' hSw; (try dsimp only at hSw); skip; go_simp; try with_reducible rfl
  simp only [Act.put, List.setIfInBounds_toArray, List.set_cons_zero, List.set_cons_succ]
  refine rgTake (i := 16) (N := some 23) (oi := { dst := some 23, op := Op.pick (Operand.tmp 14) (Operand.tmp 22) (Operand.const (Value.bool false)), type := 4, pos := "law.go:25", after := #[{ on := 7, ground := Ground.data }, { on := 15, ground := Ground.data }], guard := none }) (v := ?_) #[true, true, true, true, true, true, true, true, true, true, true, true, true, true, true, true, true, false, false, false, false] rfl rfl (by kernel_rfl) (fun _ _ _ h => h) (Or.inl ⟨by rfl, ?_⟩) hHeld ?_
  rotate_left
  · intro w' hSw; (try dsimp only at hSw); skip; go_simp; try with_reducible rfl
  simp only [Act.put, List.setIfInBounds_toArray, List.set_cons_zero, List.set_cons_succ]
  refine rgTake (i := 17) (N := some 24) (oi := { dst := some 24, op := Op.move (Operand.tmp 23), type := 4, pos := "law.go:25", after := #[{ on := 16, ground := Ground.data }, { on := 14, ground := Ground.chain }], guard := none }) (v := ?_) #[true, true, true, true, true, true, true, true, true, true, true, true, true, true, true, true, true, true, false, false, false] rfl rfl (by kernel_rfl) (fun _ _ _ h => h) (Or.inl ⟨by rfl, ?_⟩) hHeld ?_
  rotate_left
  · intro w' hSw; (try dsimp only at hSw); skip; go_simp; try with_reducible rfl
  simp only [Act.put, List.setIfInBounds_toArray, List.set_cons_zero, List.set_cons_succ]
  refine rgCall (i := 18) (N := some 25) (oi := { dst := some 25, op := Op.call { callee := Callee.value (Operand.func 14), args := #[], argTypes := #[] }, type := 4, pos := "law.go:25", after := #[{ on := 17, ground := Ground.chain }, { on := 17, ground := Ground.guard }], guard := some (17, true) }) #[true, true, true, true, true, true, true, true, true, true, true, true, true, true, true, true, true, true, true, false, false] rfl rfl (by kernel_rfl) (fun K hK => ?_)
  go_simp
  (go_at_call 14; refine (awake_any _).mono ?_; rintro e w1 ⟨rfl, hb⟩; (replace HB := keepB HB hb))
  refine hK.out _ _ (keepA hHeld hb).out (fun hHeld => ?_)
  (try simp only [Act.put, List.setIfInBounds_toArray, List.set_cons_zero, List.set_cons_succ])
  clear hK K
  refine rgTake (i := 19) (N := some 26) (oi := { dst := some 26, op := Op.pick (Operand.tmp 24) (Operand.tmp 25) (Operand.const (Value.bool false)), type := 4, pos := "law.go:25", after := #[{ on := 17, ground := Ground.data }, { on := 18, ground := Ground.data }], guard := none }) (v := ?_) #[true, true, true, true, true, true, true, true, true, true, true, true, true, true, true, true, true, true, true, true, false] rfl rfl (by kernel_rfl) (fun _ _ _ h => h) (Or.inl ⟨by rfl, ?_⟩) hHeld ?_
  rotate_left
  · intro w' hSw; (try dsimp only at hSw); skip; go_simp; try with_reducible rfl
  simp only [Act.put, List.setIfInBounds_toArray, List.set_cons_zero, List.set_cons_succ]
  refine rgTake (i := 20) (N := some 6) (oi := { dst := some 6, op := Op.assign (Operand.tmp 26), type := 4, pos := "law.go:25", after := #[{ on := 19, ground := Ground.data }, { on := 18, ground := Ground.chain }, { on := 0, ground := Ground.phase }, { on := 1, ground := Ground.phase }, { on := 2, ground := Ground.phase }, { on := 3, ground := Ground.phase }, { on := 4, ground := Ground.phase }, { on := 5, ground := Ground.phase }, { on := 6, ground := Ground.phase }, { on := 7, ground := Ground.phase }, { on := 8, ground := Ground.phase }, { on := 9, ground := Ground.phase }, { on := 10, ground := Ground.phase }, { on := 11, ground := Ground.phase }, { on := 12, ground := Ground.phase }, { on := 13, ground := Ground.phase }, { on := 14, ground := Ground.phase }, { on := 15, ground := Ground.phase }, { on := 16, ground := Ground.phase }, { on := 17, ground := Ground.phase }, { on := 18, ground := Ground.phase }, { on := 19, ground := Ground.phase }], guard := none }) (v := ?_) #[true, true, true, true, true, true, true, true, true, true, true, true, true, true, true, true, true, true, true, true, true] rfl rfl (by kernel_rfl) (fun _ _ _ h => h) (Or.inl ⟨by rfl, ?_⟩) hHeld ?_
  rotate_left
  · intro w' hSw; (try dsimp only at hSw); skip; go_simp; try with_reducible rfl
  simp only [Act.put, List.setIfInBounds_toArray, List.set_cons_zero, List.set_cons_succ]
  refine rgDone (by kernel_rfl) ?_ _
  go_wp2
  go_ret
  exact ⟨rfl, HB.out.1⟩

end Go.Proofs.Ytimcdkmbiggapaa.My
