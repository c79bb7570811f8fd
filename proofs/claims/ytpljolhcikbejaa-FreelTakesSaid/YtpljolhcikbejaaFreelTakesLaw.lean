/- The law of Takes: any ring without its first one, with one more, with one back. -/
import Derived.Test.YtpljolhcikbejaaFreelAwake
set_option linter.unusedSimpArgs false
set_option linter.unusedVariables false
namespace Go.Proofs.Ytpljolhcikbejaa.My
open Go.RowKit
theorem takes_long (A : Option Addr) (n c : Nat) (h N p : Int) (w : World) (hn : 120 < n) : Calls Try.prog 3 #[.agg #[.slice A n c, .int .i64 h, .int .i64 N], .int .i64 p] w fun e w' => e = .returned (.bool true) ∧ Below w.heap.size w w' := by
  have HA : Hid ((w.alloc (.cells #[.slice A n c, .int .i64 h, .int .i64 N] 24)).heap[w.heap.size]? = some (.cells #[.slice A n c, .int .i64 h, .int .i64 N] 24 (0, 0))) := newA w _
  have HB := keepBa (startB w) (.cells #[.slice A n c, .int .i64 h, .int .i64 N] 24)
  (try clear c0 c1 c2); have c0 := (cellA HA 0).trans rfl; have c1 := (cellA HA 1).trans rfl; have c2 := (cellA HA 2).trans rfl
  go_enter Try.func3, Try.ntmps3
  go_wp2_with (go_at_call 6; refine (awake_any _).mono ?_; rintro e w1 ⟨rfl, hb⟩; replace HB := keepB HB hb; clear hb)
  go_ret
  exact ⟨rfl, HB.out.1⟩
set_option maxRecDepth 100000 in
set_option maxHeartbeats 8000000 in
theorem takes_walk (A : Option Addr) (n c : Nat) (h N p : Int) (xs : List Int) (w : World) (hr : RdA .i64 w A n xs) (hn : ¬ 120 < n) : Calls Try.prog 3 #[.agg #[.slice A n c, .int .i64 h, .int .i64 N], .int .i64 p] w fun e w' => e = .returned (.bool true) ∧ Below w.heap.size w w' := by
  have hnm : n ≤ 9223372036854775807 := by omega
  obtain ⟨H1, h1⟩ : ∃ x, tkH n h N = x := ⟨_, rfl⟩
  obtain ⟨N1, h2⟩ : ∃ x, tkN n h N = x := ⟨_, rfl⟩
  obtain ⟨P1, h3⟩ : ∃ x, tkP xs n h N = x := ⟨_, rfl⟩
  obtain ⟨T1, h4⟩ : ∃ x, takeB n h N = x := ⟨_, rfl⟩
  obtain ⟨G, h5⟩ : ∃ x, gvR xs n h N p = x := ⟨_, rfl⟩
  obtain ⟨N2, h6⟩ : ∃ x, gvN n h N = x := ⟨_, rfl⟩
  obtain ⟨K3, h7⟩ : ∃ x, bkR xs n h N p = x := ⟨_, rfl⟩
  obtain ⟨H3, h8⟩ : ∃ x, bkH n h N = x := ⟨_, rfl⟩
  have HH1 := Lib.hid h1
  have HN1 := Lib.hid h2
  have HP1 := Lib.hid h3
  have HT1 := Lib.hid h4
  have HGG := Lib.hid h5
  have HN2 := Lib.hid h6
  have HKK := Lib.hid h7
  have HH3 := Lib.hid h8
  have e1 : (P1 == P1) = true := beq_self_eq_true _
  have e2 : (T1 == T1) = true := beq_self_eq_true _
  have HR := Lib.hid hr
  clear hr h1 h2 h3 h4 h5 h6 h7 h8
  have HA : Hid ((w.alloc (.cells #[.slice A n c, .int .i64 h, .int .i64 N] 24)).heap[w.heap.size]? = some (.cells #[.slice A n c, .int .i64 h, .int .i64 N] 24 (0, 0))) := newA w _
  have HB := keepBa (startB w) (.cells #[.slice A n c, .int .i64 h, .int .i64 N] 24)
  (try clear c0 c1 c2); have c0 := (cellA HA 0).trans rfl; have c1 := (cellA HA 1).trans rfl; have c2 := (cellA HA 2).trans rfl
  go_enter Try.func3, Try.ntmps3
  go_wp2_with (first | (refine rowLoad rfl 24 _ rfl _ rfl HA.out Try.underlying24 rfl infoFree ?_) | (go_at_call 7; refine (take_any A n c h N xs _ (HR.out.below HB.out.1) hnm).mono ?_; rintro e wA ⟨A1, cA, rfl, hR1, hb⟩; simp only [HH1.out, HN1.out, HP1.out, HT1.out]; replace HA := keepA HA hb; replace HB := keepB HB hb; have HR1 := Lib.hid hR1; clear hb hR1) | (refine rowNew rfl 24 _ _ rfl rfl _ rfl infoFree (by rfl) (by simp [Value.oneCell']) ?_; intro wX hx hb; have HXA := Lib.hid hx; have hgA : wA.heap.size < wX.heap.size := (Array.getElem?_eq_some_iff.1 hx).1; replace HR1 := Lib.hid (HR1.out.below hb); replace HA := keepA HA hb; replace HB := keepB HB hb; clear hb hx) | (go_at_call 8; refine (rtake_any A n c h N xs _ (HR.out.below HB.out.1) hnm).mono ?_; rintro e wB ⟨A2, cB, rfl, hR2, hb⟩; simp only [HH1.out, HN1.out, HP1.out, HT1.out]; replace HA := keepA HA hb; replace HXA := keepA HXA hb; replace HR1 := Lib.hid (HR1.out.below hb); replace HB := keepB HB hb; have HR2 := Lib.hid hR2; clear hb hR2) | (refine rowNew rfl 24 _ _ rfl rfl _ rfl infoFree (by rfl) (by simp [Value.oneCell']) ?_; intro wY hx hb; have HXB := Lib.hid hx; replace HR1 := Lib.hid (HR1.out.below hb); replace HR2 := Lib.hid (HR2.out.below hb); replace HA := keepA HA hb; replace HXA := keepA HXA hb; replace HB := keepB HB hb; clear hb hx))
  replace HA := keepA1 HA
  replace HXA := keepA1 HXA
  replace HXB := keepA1 HXB
  replace HB := keepB1 HB
  replace HR1 := Lib.hid (HR1.out.drew 1)
  replace HR2 := Lib.hid (HR2.out.drew 1)
  refine rgStart (S := (fun w' => w'.heap[w.heap.size]? = some (.cells #[.slice A n c, .int .i64 h, .int .i64 N] 24 (0, 0)) ∧ w'.heap[wA.heap.size]? = some (.cells #[.slice A1 n cA, .int .i64 H1, .int .i64 N1] 24 (0, 0)) ∧ w'.heap[wB.heap.size]? = some (.cells #[.slice A2 n cB, .int .i64 H1, .int .i64 N1] 24 (0, 0)))) (n := 35) #[false, false, false, false, false, false, false, false, false, false, false, false, false, false, false, false, false, false, false, false, false, false, false, false, false, false, false, false, false, false, false, false, false, false, false] (by kernel_rfl) rfl rfl ⟨HA.out, HXA.out, HXB.out⟩ (fun hHeld => ?_)
  refine rgTake (i := 0) (N := some 28) (oi := { dst := some 28, op := Op.load 24 (Operand.tmp 5), type := 24, pos := "law.go:33", after := #[], guard := none }) (v := _) #[true, false, false, false, false, false, false, false, false, false, false, false, false, false, false, false, false, false, false, false, false, false, false, false, false, false, false, false, false, false, false, false, false, false, false] rfl rfl (by kernel_rfl) (fun _ _ _ h => h) (by first | exact yieldsRow (by rfl) _ _ rfl _ rfl (fun _ h => h.1) Try.underlying24 rfl infoFree | exact yieldsRow (by rfl) _ _ rfl _ rfl (fun _ h => h.2.1) Try.underlying24 rfl infoFree | exact yieldsRow (by rfl) _ _ rfl _ rfl (fun _ h => h.2.2) Try.underlying24 rfl infoFree) hHeld ?_
  simp only [Act.put, List.setIfInBounds_toArray, List.set_cons_zero, List.set_cons_succ]
  refine rgTake (i := 1) (N := some 29) (oi := { dst := some 29, op := Op.load 24 (Operand.tmp 8), type := 24, pos := "law.go:33", after := #[], guard := none }) (v := _) #[true, true, false, false, false, false, false, false, false, false, false, false, false, false, false, false, false, false, false, false, false, false, false, false, false, false, false, false, false, false, false, false, false, false, false] rfl rfl (by kernel_rfl) (fun _ _ _ h => h) (by first | exact yieldsRow (by rfl) _ _ rfl _ rfl (fun _ h => h.1) Try.underlying24 rfl infoFree | exact yieldsRow (by rfl) _ _ rfl _ rfl (fun _ h => h.2.1) Try.underlying24 rfl infoFree | exact yieldsRow (by rfl) _ _ rfl _ rfl (fun _ h => h.2.2) Try.underlying24 rfl infoFree) hHeld ?_
  simp only [Act.put, List.setIfInBounds_toArray, List.set_cons_zero, List.set_cons_succ]
  refine rgCall (i := 2) (N := some 30) (oi := { dst := some 30, op := Op.call { callee := Callee.value (Operand.func 9), args := #[Operand.tmp 28, Operand.tmp 29], argTypes := #[24, 24] }, type := 4, pos := "law.go:33", after := #[{ on := 0, ground := Ground.data }, { on := 1, ground := Ground.data }], guard := none }) #[true, true, true, false, false, false, false, false, false, false, false, false, false, false, false, false, false, false, false, false, false, false, false, false, false, false, false, false, false, false, false, false, false, false, false] rfl rfl (by kernel_rfl) (fun K hK => ?_)
  go_simp
  (go_at_call 9; first | (refine (free_any _ _ n _ _ H1 N1 xs _ HR1.out HR2.out hnm).mono ?_; clear HR2; rintro e w1 ⟨rfl, hb⟩; replace HB := keepB HB hb) | (refine (free_any _ _ n _ _ h N2 G _ HG1.out HG2.out hnm).mono ?_; clear HG2; rintro e w1 ⟨rfl, hb⟩; replace HB := keepB HB hb) | (refine (free_any _ _ n _ _ H3 N2 K3 _ HK1.out HK2.out hnm).mono ?_; clear HK2; rintro e w1 ⟨rfl, hb⟩; replace HB := keepB HB hb))
  refine hK.out _ _ ⟨(keepA (Lib.hid hHeld.out.1) hb).out, (keepA (Lib.hid hHeld.out.2.1) hb).out, (keepA (Lib.hid hHeld.out.2.2) hb).out⟩ (fun hHeld => ?_)
  (try simp only [Act.put, List.setIfInBounds_toArray, List.set_cons_zero, List.set_cons_succ])
  clear hK K
  refine rgTake (i := 3) (N := some 31) (oi := { dst := some 31, op := Op.move (Operand.tmp 30), type := 4, pos := "law.go:33", after := #[{ on := 2, ground := Ground.data }, { on := 2, ground := Ground.chain }], guard := none }) (v := ?_) #[true, true, true, true, false, false, false, false, false, false, false, false, false, false, false, false, false, false, false, false, false, false, false, false, false, false, false, false, false, false, false, false, false, false, false] rfl rfl (by kernel_rfl) (fun _ _ _ h => h) (Or.inl ⟨by rfl, ?_⟩) hHeld ?_
  rotate_left
  · intro w' hSw; (try dsimp only at hSw); skip; go_simp; try with_reducible rfl
  simp only [Act.put, List.setIfInBounds_toArray, List.set_cons_zero, List.set_cons_succ]
  refine rgTake (i := 4) (N := some 32) (oi := { dst := some 32, op := Op.move (Operand.tmp 6), type := 3, pos := "law.go:33", after := #[{ on := 3, ground := Ground.guard }], guard := some (3, true) }) (v := ?_) #[true, true, true, true, true, false, false, false, false, false, false, false, false, false, false, false, false, false, false, false, false, false, false, false, false, false, false, false, false, false, false, false, false, false, false] rfl rfl (by kernel_rfl) (fun _ _ _ h => h) (Or.inl ⟨by rfl, ?_⟩) hHeld ?_
  rotate_left
  · intro w' hSw; (try dsimp only at hSw); skip; go_simp; try with_reducible rfl
  simp only [Act.put, List.setIfInBounds_toArray, List.set_cons_zero, List.set_cons_succ]
  refine rgTake (i := 5) (N := some 33) (oi := { dst := some 33, op := Op.move (Operand.tmp 9), type := 3, pos := "law.go:33", after := #[{ on := 3, ground := Ground.guard }], guard := some (3, true) }) (v := ?_) #[true, true, true, true, true, true, false, false, false, false, false, false, false, false, false, false, false, false, false, false, false, false, false, false, false, false, false, false, false, false, false, false, false, false, false] rfl rfl (by kernel_rfl) (fun _ _ _ h => h) (Or.inl ⟨by rfl, ?_⟩) hHeld ?_
  rotate_left
  · intro w' hSw; (try dsimp only at hSw); skip; go_simp; try with_reducible rfl
  simp only [Act.put, List.setIfInBounds_toArray, List.set_cons_zero, List.set_cons_succ]
  refine rgTake (i := 6) (N := some 34) (oi := { dst := some 34, op := Op.binOp BinOp.eql 3 (Operand.tmp 32) (Operand.tmp 33) 3, type := 4, pos := "law.go:33", after := #[{ on := 4, ground := Ground.data }, { on := 5, ground := Ground.data }, { on := 3, ground := Ground.guard }], guard := some (3, true) }) (v := ?_) #[true, true, true, true, true, true, true, false, false, false, false, false, false, false, false, false, false, false, false, false, false, false, false, false, false, false, false, false, false, false, false, false, false, false, false] rfl rfl (by kernel_rfl) (fun _ _ _ h => h) (Or.inl ⟨by rfl, ?_⟩) hHeld ?_
  rotate_left
  · intro w' hSw; (try dsimp only at hSw); skip; go_simp; try with_reducible rfl
  simp only [Act.put, List.setIfInBounds_toArray, List.set_cons_zero, List.set_cons_succ]
  refine rgTake (i := 7) (N := some 35) (oi := { dst := some 35, op := Op.pick (Operand.tmp 31) (Operand.tmp 34) (Operand.const (Value.bool false)), type := 4, pos := "law.go:33", after := #[{ on := 3, ground := Ground.data }, { on := 6, ground := Ground.data }], guard := none }) (v := ?_) #[true, true, true, true, true, true, true, true, false, false, false, false, false, false, false, false, false, false, false, false, false, false, false, false, false, false, false, false, false, false, false, false, false, false, false] rfl rfl (by kernel_rfl) (fun _ _ _ h => h) (Or.inl ⟨by rfl, ?_⟩) hHeld ?_
  rotate_left
  · intro w' hSw; (try dsimp only at hSw); skip; go_simp; try with_reducible rfl
  simp only [Act.put, List.setIfInBounds_toArray, List.set_cons_zero, List.set_cons_succ]
  refine rgTake (i := 8) (N := some 36) (oi := { dst := some 36, op := Op.move (Operand.tmp 35), type := 4, pos := "law.go:33", after := #[{ on := 7, ground := Ground.data }, { on := 3, ground := Ground.chain }], guard := none }) (v := ?_) #[true, true, true, true, true, true, true, true, true, false, false, false, false, false, false, false, false, false, false, false, false, false, false, false, false, false, false, false, false, false, false, false, false, false, false] rfl rfl (by kernel_rfl) (fun _ _ _ h => h) (Or.inl ⟨by rfl, ?_⟩) hHeld ?_
  rotate_left
  · intro w' hSw; (try dsimp only at hSw); skip; go_simp; try with_reducible rfl
  simp only [Act.put, List.setIfInBounds_toArray, List.set_cons_zero, List.set_cons_succ]
  refine rgTake (i := 9) (N := some 37) (oi := { dst := some 37, op := Op.move (Operand.tmp 7), type := 4, pos := "law.go:33", after := #[{ on := 8, ground := Ground.guard }], guard := some (8, true) }) (v := ?_) #[true, true, true, true, true, true, true, true, true, true, false, false, false, false, false, false, false, false, false, false, false, false, false, false, false, false, false, false, false, false, false, false, false, false, false] rfl rfl (by kernel_rfl) (fun _ _ _ h => h) (Or.inl ⟨by rfl, ?_⟩) hHeld ?_
  rotate_left
  · intro w' hSw; (try dsimp only at hSw); skip; go_simp; try with_reducible rfl
  simp only [Act.put, List.setIfInBounds_toArray, List.set_cons_zero, List.set_cons_succ]
  refine rgTake (i := 10) (N := some 38) (oi := { dst := some 38, op := Op.move (Operand.tmp 10), type := 4, pos := "law.go:33", after := #[{ on := 8, ground := Ground.guard }], guard := some (8, true) }) (v := ?_) #[true, true, true, true, true, true, true, true, true, true, true, false, false, false, false, false, false, false, false, false, false, false, false, false, false, false, false, false, false, false, false, false, false, false, false] rfl rfl (by kernel_rfl) (fun _ _ _ h => h) (Or.inl ⟨by rfl, ?_⟩) hHeld ?_
  rotate_left
  · intro w' hSw; (try dsimp only at hSw); skip; go_simp; try with_reducible rfl
  simp only [Act.put, List.setIfInBounds_toArray, List.set_cons_zero, List.set_cons_succ]
  refine rgTake (i := 11) (N := some 39) (oi := { dst := some 39, op := Op.binOp BinOp.eql 4 (Operand.tmp 37) (Operand.tmp 38) 4, type := 4, pos := "law.go:33", after := #[{ on := 9, ground := Ground.data }, { on := 10, ground := Ground.data }, { on := 8, ground := Ground.guard }], guard := some (8, true) }) (v := ?_) #[true, true, true, true, true, true, true, true, true, true, true, true, false, false, false, false, false, false, false, false, false, false, false, false, false, false, false, false, false, false, false, false, false, false, false] rfl rfl (by kernel_rfl) (fun _ _ _ h => h) (Or.inl ⟨by rfl, ?_⟩) hHeld ?_
  rotate_left
  · intro w' hSw; (try dsimp only at hSw); skip; go_simp; try with_reducible rfl
  simp only [Act.put, List.setIfInBounds_toArray, List.set_cons_zero, List.set_cons_succ]
  refine rgTake (i := 12) (N := some 40) (oi := { dst := some 40, op := Op.pick (Operand.tmp 36) (Operand.tmp 39) (Operand.const (Value.bool false)), type := 4, pos := "law.go:33", after := #[{ on := 8, ground := Ground.data }, { on := 11, ground := Ground.data }], guard := none }) (v := ?_) #[true, true, true, true, true, true, true, true, true, true, true, true, true, false, false, false, false, false, false, false, false, false, false, false, false, false, false, false, false, false, false, false, false, false, false] rfl rfl (by kernel_rfl) (fun _ _ _ h => h) (Or.inl ⟨by rfl, ?_⟩) hHeld ?_
  rotate_left
  · intro w' hSw; (try dsimp only at hSw); skip; go_simp; try with_reducible rfl
  simp only [Act.put, List.setIfInBounds_toArray, List.set_cons_zero, List.set_cons_succ]
  refine rgTake (i := 13) (N := some 41) (oi := { dst := some 41, op := Op.move (Operand.tmp 40), type := 4, pos := "law.go:33", after := #[{ on := 12, ground := Ground.data }, { on := 8, ground := Ground.chain }], guard := none }) (v := ?_) #[true, true, true, true, true, true, true, true, true, true, true, true, true, true, false, false, false, false, false, false, false, false, false, false, false, false, false, false, false, false, false, false, false, false, false] rfl rfl (by kernel_rfl) (fun _ _ _ h => h) (Or.inl ⟨by rfl, ?_⟩) hHeld ?_
  rotate_left
  · intro w' hSw; (try dsimp only at hSw); skip; go_simp; try with_reducible rfl
  simp only [Act.put, List.setIfInBounds_toArray, List.set_cons_zero, List.set_cons_succ]
  refine rgTake (i := 14) (N := some 42) (oi := { dst := some 42, op := Op.load 24 (Operand.tmp 2), type := 24, pos := "law.go:33", after := #[{ on := 13, ground := Ground.guard }], guard := some (13, true) }) (v := _) #[true, true, true, true, true, true, true, true, true, true, true, true, true, true, true, false, false, false, false, false, false, false, false, false, false, false, false, false, false, false, false, false, false, false, false] rfl rfl (by kernel_rfl) (fun _ _ _ h => h) (by first | exact yieldsRow (by rfl) _ _ rfl _ rfl (fun _ h => h.1) Try.underlying24 rfl infoFree | exact yieldsRow (by rfl) _ _ rfl _ rfl (fun _ h => h.2.1) Try.underlying24 rfl infoFree | exact yieldsRow (by rfl) _ _ rfl _ rfl (fun _ h => h.2.2) Try.underlying24 rfl infoFree) hHeld ?_
  simp only [Act.put, List.setIfInBounds_toArray, List.set_cons_zero, List.set_cons_succ]
  refine rgTake (i := 15) (N := some 43) (oi := { dst := some 43, op := Op.move (Operand.tmp 1), type := 3, pos := "law.go:33", after := #[{ on := 13, ground := Ground.guard }], guard := some (13, true) }) (v := ?_) #[true, true, true, true, true, true, true, true, true, true, true, true, true, true, true, true, false, false, false, false, false, false, false, false, false, false, false, false, false, false, false, false, false, false, false] rfl rfl (by kernel_rfl) (fun _ _ _ h => h) (Or.inl ⟨by rfl, ?_⟩) hHeld ?_
  rotate_left
  · intro w' hSw; (try dsimp only at hSw); skip; go_simp; try with_reducible rfl
  simp only [Act.put, List.setIfInBounds_toArray, List.set_cons_zero, List.set_cons_succ]
  refine rgTake (i := 17) (N := some 45) (oi := { dst := some 45, op := Op.load 24 (Operand.tmp 2), type := 24, pos := "law.go:33", after := #[{ on := 13, ground := Ground.guard }], guard := some (13, true) }) (v := _) #[true, true, true, true, true, true, true, true, true, true, true, true, true, true, true, true, false, true, false, false, false, false, false, false, false, false, false, false, false, false, false, false, false, false, false] rfl rfl (by kernel_rfl) (fun _ _ _ h => h) (by first | exact yieldsRow (by rfl) _ _ rfl _ rfl (fun _ h => h.1) Try.underlying24 rfl infoFree | exact yieldsRow (by rfl) _ _ rfl _ rfl (fun _ h => h.2.1) Try.underlying24 rfl infoFree | exact yieldsRow (by rfl) _ _ rfl _ rfl (fun _ h => h.2.2) Try.underlying24 rfl infoFree) hHeld ?_
  simp only [Act.put, List.setIfInBounds_toArray, List.set_cons_zero, List.set_cons_succ]
  refine rgTake (i := 18) (N := some 46) (oi := { dst := some 46, op := Op.move (Operand.tmp 1), type := 3, pos := "law.go:33", after := #[{ on := 13, ground := Ground.guard }], guard := some (13, true) }) (v := ?_) #[true, true, true, true, true, true, true, true, true, true, true, true, true, true, true, true, false, true, true, false, false, false, false, false, false, false, false, false, false, false, false, false, false, false, false] rfl rfl (by kernel_rfl) (fun _ _ _ h => h) (Or.inl ⟨by rfl, ?_⟩) hHeld ?_
  rotate_left
  · intro w' hSw; (try dsimp only at hSw); skip; go_simp; try with_reducible rfl
  simp only [Act.put, List.setIfInBounds_toArray, List.set_cons_zero, List.set_cons_succ]
  refine rgCall (i := 16) (N := some 44) (oi := { dst := some 44, op := Op.call { callee := Callee.value (Operand.func 10), args := #[Operand.tmp 42, Operand.tmp 43], argTypes := #[24, 3] }, type := 24, pos := "law.go:33", after := #[{ on := 14, ground := Ground.data }, { on := 15, ground := Ground.data }, { on := 13, ground := Ground.chain }, { on := 13, ground := Ground.guard }], guard := some (13, true) }) #[true, true, true, true, true, true, true, true, true, true, true, true, true, true, true, true, true, true, true, false, false, false, false, false, false, false, false, false, false, false, false, false, false, false, false] rfl rfl (by kernel_rfl) (fun K hK => ?_)
  go_simp
  (go_at_call 10; refine (give_any A n c h N p xs _ (HR.out.below HB.out.1) hnm).mono ?_; rintro e w1 ⟨A3, c3, rfl, hr, hb⟩; simp only [HGG.out, HN2.out] at hr ⊢; replace HB := keepB HB hb; have HG1 := Lib.hid hr)
  refine hK.out _ _ ⟨(keepA (Lib.hid hHeld.out.1) hb).out, (keepA (Lib.hid hHeld.out.2.1) hb).out, (keepA (Lib.hid hHeld.out.2.2) hb).out⟩ (fun hHeld => ?_)
  (try simp only [Act.put, List.setIfInBounds_toArray, List.set_cons_zero, List.set_cons_succ])
  clear hK K
  refine rgCall (i := 19) (N := some 47) (oi := { dst := some 47, op := Op.call { callee := Callee.value (Operand.func 11), args := #[Operand.tmp 45, Operand.tmp 46], argTypes := #[24, 3] }, type := 24, pos := "law.go:33", after := #[{ on := 17, ground := Ground.data }, { on := 18, ground := Ground.data }, { on := 16, ground := Ground.chain }, { on := 13, ground := Ground.guard }], guard := some (13, true) }) #[true, true, true, true, true, true, true, true, true, true, true, true, true, true, true, true, true, true, true, true, false, false, false, false, false, false, false, false, false, false, false, false, false, false, false] rfl rfl (by kernel_rfl) (fun K hK => ?_)
  go_simp
  (go_at_call 11; refine (rgive_any A n c h N p xs _ (HR.out.below HB.out.1) hnm).mono ?_; rintro e w1 ⟨A4, c4, rfl, hr, hb⟩; simp only [HGG.out, HN2.out] at hr ⊢; replace HB := keepB HB hb; replace HG1 := Lib.hid (HG1.out.below hb); have HG2 := Lib.hid hr)
  refine hK.out _ _ ⟨(keepA (Lib.hid hHeld.out.1) hb).out, (keepA (Lib.hid hHeld.out.2.1) hb).out, (keepA (Lib.hid hHeld.out.2.2) hb).out⟩ (fun hHeld => ?_)
  (try simp only [Act.put, List.setIfInBounds_toArray, List.set_cons_zero, List.set_cons_succ])
  clear hK K
  refine rgCall (i := 20) (N := some 48) (oi := { dst := some 48, op := Op.call { callee := Callee.value (Operand.func 9), args := #[Operand.tmp 44, Operand.tmp 47], argTypes := #[24, 24] }, type := 4, pos := "law.go:33", after := #[{ on := 16, ground := Ground.data }, { on := 19, ground := Ground.data }, { on := 19, ground := Ground.chain }, { on := 13, ground := Ground.guard }], guard := some (13, true) }) #[true, true, true, true, true, true, true, true, true, true, true, true, true, true, true, true, true, true, true, true, true, false, false, false, false, false, false, false, false, false, false, false, false, false, false] rfl rfl (by kernel_rfl) (fun K hK => ?_)
  go_simp
  (go_at_call 9; first | (refine (free_any _ _ n _ _ H1 N1 xs _ HR1.out HR2.out hnm).mono ?_; clear HR2; rintro e w1 ⟨rfl, hb⟩; replace HB := keepB HB hb) | (refine (free_any _ _ n _ _ h N2 G _ HG1.out HG2.out hnm).mono ?_; clear HG2; rintro e w1 ⟨rfl, hb⟩; replace HB := keepB HB hb) | (refine (free_any _ _ n _ _ H3 N2 K3 _ HK1.out HK2.out hnm).mono ?_; clear HK2; rintro e w1 ⟨rfl, hb⟩; replace HB := keepB HB hb))
  refine hK.out _ _ ⟨(keepA (Lib.hid hHeld.out.1) hb).out, (keepA (Lib.hid hHeld.out.2.1) hb).out, (keepA (Lib.hid hHeld.out.2.2) hb).out⟩ (fun hHeld => ?_)
  (try simp only [Act.put, List.setIfInBounds_toArray, List.set_cons_zero, List.set_cons_succ])
  clear hK K
  refine rgTake (i := 21) (N := some 49) (oi := { dst := some 49, op := Op.pick (Operand.tmp 41) (Operand.tmp 48) (Operand.const (Value.bool false)), type := 4, pos := "law.go:33", after := #[{ on := 13, ground := Ground.data }, { on := 20, ground := Ground.data }], guard := none }) (v := ?_) #[true, true, true, true, true, true, true, true, true, true, true, true, true, true, true, true, true, true, true, true, true, true, false, false, false, false, false, false, false, false, false, false, false, false, false] rfl rfl (by kernel_rfl) (fun _ _ _ h => h) (Or.inl ⟨by rfl, ?_⟩) hHeld ?_
  rotate_left
  · intro w' hSw; (try dsimp only at hSw); skip; go_simp; try with_reducible rfl
  simp only [Act.put, List.setIfInBounds_toArray, List.set_cons_zero, List.set_cons_succ]
  refine rgTake (i := 22) (N := some 50) (oi := { dst := some 50, op := Op.move (Operand.tmp 49), type := 4, pos := "law.go:33", after := #[{ on := 21, ground := Ground.data }, { on := 20, ground := Ground.chain }], guard := none }) (v := ?_) #[true, true, true, true, true, true, true, true, true, true, true, true, true, true, true, true, true, true, true, true, true, true, true, false, false, false, false, false, false, false, false, false, false, false, false] rfl rfl (by kernel_rfl) (fun _ _ _ h => h) (Or.inl ⟨by rfl, ?_⟩) hHeld ?_
  rotate_left
  · intro w' hSw; (try dsimp only at hSw); skip; go_simp; try with_reducible rfl
  simp only [Act.put, List.setIfInBounds_toArray, List.set_cons_zero, List.set_cons_succ]
  refine rgTake (i := 23) (N := some 51) (oi := { dst := some 51, op := Op.load 24 (Operand.tmp 2), type := 24, pos := "law.go:33", after := #[{ on := 22, ground := Ground.guard }], guard := some (22, true) }) (v := _) #[true, true, true, true, true, true, true, true, true, true, true, true, true, true, true, true, true, true, true, true, true, true, true, true, false, false, false, false, false, false, false, false, false, false, false] rfl rfl (by kernel_rfl) (fun _ _ _ h => h) (by first | exact yieldsRow (by rfl) _ _ rfl _ rfl (fun _ h => h.1) Try.underlying24 rfl infoFree | exact yieldsRow (by rfl) _ _ rfl _ rfl (fun _ h => h.2.1) Try.underlying24 rfl infoFree | exact yieldsRow (by rfl) _ _ rfl _ rfl (fun _ h => h.2.2) Try.underlying24 rfl infoFree) hHeld ?_
  simp only [Act.put, List.setIfInBounds_toArray, List.set_cons_zero, List.set_cons_succ]
  refine rgTake (i := 24) (N := some 52) (oi := { dst := some 52, op := Op.move (Operand.tmp 1), type := 3, pos := "law.go:33", after := #[{ on := 22, ground := Ground.guard }], guard := some (22, true) }) (v := ?_) #[true, true, true, true, true, true, true, true, true, true, true, true, true, true, true, true, true, true, true, true, true, true, true, true, true, false, false, false, false, false, false, false, false, false, false] rfl rfl (by kernel_rfl) (fun _ _ _ h => h) (Or.inl ⟨by rfl, ?_⟩) hHeld ?_
  rotate_left
  · intro w' hSw; (try dsimp only at hSw); skip; go_simp; try with_reducible rfl
  simp only [Act.put, List.setIfInBounds_toArray, List.set_cons_zero, List.set_cons_succ]
  refine rgTake (i := 26) (N := some 54) (oi := { dst := some 54, op := Op.load 24 (Operand.tmp 2), type := 24, pos := "law.go:33", after := #[{ on := 22, ground := Ground.guard }], guard := some (22, true) }) (v := _) #[true, true, true, true, true, true, true, true, true, true, true, true, true, true, true, true, true, true, true, true, true, true, true, true, true, false, true, false, false, false, false, false, false, false, false] rfl rfl (by kernel_rfl) (fun _ _ _ h => h) (by first | exact yieldsRow (by rfl) _ _ rfl _ rfl (fun _ h => h.1) Try.underlying24 rfl infoFree | exact yieldsRow (by rfl) _ _ rfl _ rfl (fun _ h => h.2.1) Try.underlying24 rfl infoFree | exact yieldsRow (by rfl) _ _ rfl _ rfl (fun _ h => h.2.2) Try.underlying24 rfl infoFree) hHeld ?_
  simp only [Act.put, List.setIfInBounds_toArray, List.set_cons_zero, List.set_cons_succ]
  refine rgTake (i := 27) (N := some 55) (oi := { dst := some 55, op := Op.move (Operand.tmp 1), type := 3, pos := "law.go:33", after := #[{ on := 22, ground := Ground.guard }], guard := some (22, true) }) (v := ?_) #[true, true, true, true, true, true, true, true, true, true, true, true, true, true, true, true, true, true, true, true, true, true, true, true, true, false, true, true, false, false, false, false, false, false, false] rfl rfl (by kernel_rfl) (fun _ _ _ h => h) (Or.inl ⟨by rfl, ?_⟩) hHeld ?_
  rotate_left
  · intro w' hSw; (try dsimp only at hSw); skip; go_simp; try with_reducible rfl
  simp only [Act.put, List.setIfInBounds_toArray, List.set_cons_zero, List.set_cons_succ]
  refine rgCall (i := 25) (N := some 53) (oi := { dst := some 53, op := Op.call { callee := Callee.value (Operand.func 12), args := #[Operand.tmp 51, Operand.tmp 52], argTypes := #[24, 3] }, type := 24, pos := "law.go:33", after := #[{ on := 23, ground := Ground.data }, { on := 24, ground := Ground.data }, { on := 22, ground := Ground.chain }, { on := 22, ground := Ground.guard }], guard := some (22, true) }) #[true, true, true, true, true, true, true, true, true, true, true, true, true, true, true, true, true, true, true, true, true, true, true, true, true, true, true, true, false, false, false, false, false, false, false] rfl rfl (by kernel_rfl) (fun K hK => ?_)
  go_simp
  (go_at_call 12; refine (back_any A n c h N p xs _ (HR.out.below HB.out.1) hnm).mono ?_; rintro e w1 ⟨A5, c5, rfl, hr, hb⟩; simp only [HKK.out, HH3.out, HN2.out] at hr ⊢; replace HB := keepB HB hb; have HK1 := Lib.hid hr)
  refine hK.out _ _ ⟨(keepA (Lib.hid hHeld.out.1) hb).out, (keepA (Lib.hid hHeld.out.2.1) hb).out, (keepA (Lib.hid hHeld.out.2.2) hb).out⟩ (fun hHeld => ?_)
  (try simp only [Act.put, List.setIfInBounds_toArray, List.set_cons_zero, List.set_cons_succ])
  clear hK K
  refine rgCall (i := 28) (N := some 56) (oi := { dst := some 56, op := Op.call { callee := Callee.value (Operand.func 13), args := #[Operand.tmp 54, Operand.tmp 55], argTypes := #[24, 3] }, type := 24, pos := "law.go:33", after := #[{ on := 26, ground := Ground.data }, { on := 27, ground := Ground.data }, { on := 25, ground := Ground.chain }, { on := 22, ground := Ground.guard }], guard := some (22, true) }) #[true, true, true, true, true, true, true, true, true, true, true, true, true, true, true, true, true, true, true, true, true, true, true, true, true, true, true, true, true, false, false, false, false, false, false] rfl rfl (by kernel_rfl) (fun K hK => ?_)
  go_simp
  (go_at_call 13; refine (rback_any A n c h N p xs _ (HR.out.below HB.out.1) hnm).mono ?_; rintro e w1 ⟨A6, c6, rfl, hr, hb⟩; simp only [HKK.out, HH3.out, HN2.out] at hr ⊢; replace HB := keepB HB hb; replace HK1 := Lib.hid (HK1.out.below hb); have HK2 := Lib.hid hr)
  refine hK.out _ _ ⟨(keepA (Lib.hid hHeld.out.1) hb).out, (keepA (Lib.hid hHeld.out.2.1) hb).out, (keepA (Lib.hid hHeld.out.2.2) hb).out⟩ (fun hHeld => ?_)
  (try simp only [Act.put, List.setIfInBounds_toArray, List.set_cons_zero, List.set_cons_succ])
  clear hK K
  refine rgCall (i := 29) (N := some 57) (oi := { dst := some 57, op := Op.call { callee := Callee.value (Operand.func 9), args := #[Operand.tmp 53, Operand.tmp 56], argTypes := #[24, 24] }, type := 4, pos := "law.go:33", after := #[{ on := 25, ground := Ground.data }, { on := 28, ground := Ground.data }, { on := 28, ground := Ground.chain }, { on := 22, ground := Ground.guard }], guard := some (22, true) }) #[true, true, true, true, true, true, true, true, true, true, true, true, true, true, true, true, true, true, true, true, true, true, true, true, true, true, true, true, true, true, false, false, false, false, false] rfl rfl (by kernel_rfl) (fun K hK => ?_)
  go_simp
  (go_at_call 9; first | (refine (free_any _ _ n _ _ H1 N1 xs _ HR1.out HR2.out hnm).mono ?_; clear HR2; rintro e w1 ⟨rfl, hb⟩; replace HB := keepB HB hb) | (refine (free_any _ _ n _ _ h N2 G _ HG1.out HG2.out hnm).mono ?_; clear HG2; rintro e w1 ⟨rfl, hb⟩; replace HB := keepB HB hb) | (refine (free_any _ _ n _ _ H3 N2 K3 _ HK1.out HK2.out hnm).mono ?_; clear HK2; rintro e w1 ⟨rfl, hb⟩; replace HB := keepB HB hb))
  refine hK.out _ _ ⟨(keepA (Lib.hid hHeld.out.1) hb).out, (keepA (Lib.hid hHeld.out.2.1) hb).out, (keepA (Lib.hid hHeld.out.2.2) hb).out⟩ (fun hHeld => ?_)
  (try simp only [Act.put, List.setIfInBounds_toArray, List.set_cons_zero, List.set_cons_succ])
  clear hK K
  refine rgTake (i := 30) (N := some 58) (oi := { dst := some 58, op := Op.pick (Operand.tmp 50) (Operand.tmp 57) (Operand.const (Value.bool false)), type := 4, pos := "law.go:33", after := #[{ on := 22, ground := Ground.data }, { on := 29, ground := Ground.data }], guard := none }) (v := ?_) #[true, true, true, true, true, true, true, true, true, true, true, true, true, true, true, true, true, true, true, true, true, true, true, true, true, true, true, true, true, true, true, false, false, false, false] rfl rfl (by kernel_rfl) (fun _ _ _ h => h) (Or.inl ⟨by rfl, ?_⟩) hHeld ?_
  rotate_left
  · intro w' hSw; (try dsimp only at hSw); skip; go_simp; try with_reducible rfl
  simp only [Act.put, List.setIfInBounds_toArray, List.set_cons_zero, List.set_cons_succ]
  refine rgTake (i := 31) (N := some 59) (oi := { dst := some 59, op := Op.move (Operand.tmp 58), type := 4, pos := "law.go:33", after := #[{ on := 30, ground := Ground.data }, { on := 29, ground := Ground.chain }], guard := none }) (v := ?_) #[true, true, true, true, true, true, true, true, true, true, true, true, true, true, true, true, true, true, true, true, true, true, true, true, true, true, true, true, true, true, true, true, false, false, false] rfl rfl (by kernel_rfl) (fun _ _ _ h => h) (Or.inl ⟨by rfl, ?_⟩) hHeld ?_
  rotate_left
  · intro w' hSw; (try dsimp only at hSw); skip; go_simp; try with_reducible rfl
  simp only [Act.put, List.setIfInBounds_toArray, List.set_cons_zero, List.set_cons_succ]
  refine rgCall (i := 32) (N := some 60) (oi := { dst := some 60, op := Op.call { callee := Callee.value (Operand.func 6), args := #[], argTypes := #[] }, type := 4, pos := "law.go:33", after := #[{ on := 31, ground := Ground.chain }, { on := 31, ground := Ground.guard }], guard := some (31, true) }) #[true, true, true, true, true, true, true, true, true, true, true, true, true, true, true, true, true, true, true, true, true, true, true, true, true, true, true, true, true, true, true, true, true, false, false] rfl rfl (by kernel_rfl) (fun K hK => ?_)
  go_simp
  (go_at_call 6; refine (awake_any _).mono ?_; rintro e w1 ⟨rfl, hb⟩; replace HB := keepB HB hb)
  refine hK.out _ _ ⟨(keepA (Lib.hid hHeld.out.1) hb).out, (keepA (Lib.hid hHeld.out.2.1) hb).out, (keepA (Lib.hid hHeld.out.2.2) hb).out⟩ (fun hHeld => ?_)
  (try simp only [Act.put, List.setIfInBounds_toArray, List.set_cons_zero, List.set_cons_succ])
  clear hK K
  refine rgTake (i := 33) (N := some 61) (oi := { dst := some 61, op := Op.pick (Operand.tmp 59) (Operand.tmp 60) (Operand.const (Value.bool false)), type := 4, pos := "law.go:33", after := #[{ on := 31, ground := Ground.data }, { on := 32, ground := Ground.data }], guard := none }) (v := ?_) #[true, true, true, true, true, true, true, true, true, true, true, true, true, true, true, true, true, true, true, true, true, true, true, true, true, true, true, true, true, true, true, true, true, true, false] rfl rfl (by kernel_rfl) (fun _ _ _ h => h) (Or.inl ⟨by rfl, ?_⟩) hHeld ?_
  rotate_left
  · intro w' hSw; (try dsimp only at hSw); skip; go_simp; try with_reducible rfl
  simp only [Act.put, List.setIfInBounds_toArray, List.set_cons_zero, List.set_cons_succ]
  refine rgTake (i := 34) (N := some 4) (oi := { dst := some 4, op := Op.assign (Operand.tmp 61), type := 4, pos := "law.go:33", after := #[{ on := 33, ground := Ground.data }, { on := 32, ground := Ground.chain }, { on := 0, ground := Ground.phase }, { on := 1, ground := Ground.phase }, { on := 2, ground := Ground.phase }, { on := 3, ground := Ground.phase }, { on := 4, ground := Ground.phase }, { on := 5, ground := Ground.phase }, { on := 6, ground := Ground.phase }, { on := 7, ground := Ground.phase }, { on := 8, ground := Ground.phase }, { on := 9, ground := Ground.phase }, { on := 10, ground := Ground.phase }, { on := 11, ground := Ground.phase }, { on := 12, ground := Ground.phase }, { on := 13, ground := Ground.phase }, { on := 14, ground := Ground.phase }, { on := 15, ground := Ground.phase }, { on := 16, ground := Ground.phase }, { on := 17, ground := Ground.phase }, { on := 18, ground := Ground.phase }, { on := 19, ground := Ground.phase }, { on := 20, ground := Ground.phase }, { on := 21, ground := Ground.phase }, { on := 22, ground := Ground.phase }, { on := 23, ground := Ground.phase }, { on := 24, ground := Ground.phase }, { on := 25, ground := Ground.phase }, { on := 26, ground := Ground.phase }, { on := 27, ground := Ground.phase }, { on := 28, ground := Ground.phase }, { on := 29, ground := Ground.phase }, { on := 30, ground := Ground.phase }, { on := 31, ground := Ground.phase }, { on := 32, ground := Ground.phase }, { on := 33, ground := Ground.phase }], guard := none }) (v := ?_) #[true, true, true, true, true, true, true, true, true, true, true, true, true, true, true, true, true, true, true, true, true, true, true, true, true, true, true, true, true, true, true, true, true, true, true] rfl rfl (by kernel_rfl) (fun _ _ _ h => h) (Or.inl ⟨by rfl, ?_⟩) hHeld ?_
  rotate_left
  · intro w' hSw; (try dsimp only at hSw); skip; go_simp; try with_reducible rfl
  simp only [Act.put, List.setIfInBounds_toArray, List.set_cons_zero, List.set_cons_succ]
  refine rgDone (by kernel_rfl) ?_ _
  go_wp2
  go_ret
  exact ⟨rfl, HB.out.1⟩
theorem takes_any (A : Option Addr) (n c : Nat) (h N p : Int) (xs : List Int) (w : World) (hr : RdA .i64 w A n xs) : Calls Try.prog 3 #[.agg #[.slice A n c, .int .i64 h, .int .i64 N], .int .i64 p] w fun e w' => e = .returned (.bool true) ∧ Below w.heap.size w w' := by
  by_cases hn : 120 < n
  · exact takes_long A n c h N p w hn
  · exact takes_walk A n c h N p xs w hr hn
end Go.Proofs.Ytpljolhcikbejaa.My
