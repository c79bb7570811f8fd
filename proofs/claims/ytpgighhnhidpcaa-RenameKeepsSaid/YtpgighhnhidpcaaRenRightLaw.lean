/- The law of Right: whether any names are right. -/
import Derived.Test.YtpgighhnhidpcaaRenRightOn
import Derived.Test.YtpgighhnhidpcaaRenRRight
import Derived.Test.YtpgighhnhidpcaaRenLetsLaw
set_option linter.unusedSimpArgs false
set_option linter.unusedVariables false
namespace Go.Proofs.Ytpgighhnhidpcaa.My
open Go.RowKit
set_option maxRecDepth 100000 in
set_option maxHeartbeats 4000000 in
theorem renright_any (v : NmV) (A B : Option Addr) (c d : Nat) (n : Int) (fl : List RenV) (w : World) (kv : v.Ok) (hx : RdA .i64 w A v.n v.xs) (hl : RwA w B 29 fl.length (fl.map rA)) (hlm : fl.length ≤ 9223372036854775807) : Calls Try.prog 6 #[.agg (nmA v A c), .int .i64 n, .slice B fl.length d] w fun e w' => e = .returned (.bool true) ∧ Below w.heap.size w w' := by
  have HB := startB w
  have HX := Lib.hid hx
  have HL := Lib.hid hl
  obtain ⟨X, hX⟩ : ∃ X, rgR v n fl = X := ⟨_, rfl⟩
  have HRR := Lib.hid hX
  have HRP := Lib.hid ((rg_eq v n fl).trans hX)
  clear hx hl hX
  cases hs : decide (v.n ≤ 100) with
  | false =>
    go_enter Try.func6, Try.ntmps6
    go_wp2_with (first | (refine wlBox rfl 29 _ rfl (nmA v A c) rfl ?_; intro gS w1 hgS hgS' hs hb; have HS := Lib.hid hs; replace HX := Lib.hid (HX.out.below hb); replace HL := Lib.hid (HL.out.below hb); replace HB := keepB HB hb; clear hs hb) | (refine rowLoad rfl 29 _ rfl gS rfl HS.out Try.underlying29 rfl (nm_szV kv _ _) ?_) | (go_at_call 8; refine (small_v v A c _ kv).mono ?_; rintro e w3 ⟨rfl, hb⟩; rw [hs]; replace HS := keepA HS hb; replace HX := Lib.hid (HX.out.below hb); replace HL := Lib.hid (HL.out.below hb); replace HB := keepB HB hb; clear hb) | (go_at_call 9; refine (awake_any _).mono ?_; rintro e w4 ⟨rfl, hb⟩; replace HS := keepA HS hb; replace HB := keepB HB hb))
    go_ret
    exact ⟨rfl, HB.out.1⟩
  | true =>
    by_cases h100 : 100 < fl.length
    · go_enter Try.func6, Try.ntmps6
      go_wp2_with (first | (refine wlBox rfl 29 _ rfl (nmA v A c) rfl ?_; intro gS w1 hgS hgS' hs hb; have HS := Lib.hid hs; replace HX := Lib.hid (HX.out.below hb); replace HL := Lib.hid (HL.out.below hb); replace HB := keepB HB hb; clear hs hb) | (refine rowLoad rfl 29 _ rfl gS rfl HS.out Try.underlying29 rfl (nm_szV kv _ _) ?_) | (go_at_call 8; refine (small_v v A c _ kv).mono ?_; rintro e w3 ⟨rfl, hb⟩; rw [hs]; replace HS := keepA HS hb; replace HX := Lib.hid (HX.out.below hb); replace HL := Lib.hid (HL.out.below hb); replace HB := keepB HB hb; clear hb) | (go_at_call 9; refine (awake_any _).mono ?_; rintro e w4 ⟨rfl, hb⟩; replace HS := keepA HS hb; replace HB := keepB HB hb))
      go_ret
      exact ⟨rfl, HB.out.1⟩
    · have hfl : fl.length ≤ 100 := by omega
      have hXX : (X == X) = true := beq_self_eq_true _
      go_enter Try.func6, Try.ntmps6
      go_wp2_with (first | (refine wlBox rfl 29 _ rfl (nmA v A c) rfl ?_; intro gS w1 hgS hgS' hs hb; have HS := Lib.hid hs; replace HX := Lib.hid (HX.out.below hb); replace HL := Lib.hid (HL.out.below hb); replace HB := keepB HB hb; clear hs hb) | (refine rowLoad rfl 29 _ rfl gS rfl HS.out Try.underlying29 rfl (nm_szV kv _ _) ?_) | (go_at_call 8; refine (small_v v A c _ kv).mono ?_; rintro e w3 ⟨rfl, hb⟩; rw [hs]; replace HS := keepA HS hb; replace HX := Lib.hid (HX.out.below hb); replace HL := Lib.hid (HL.out.below hb); replace HB := keepB HB hb; clear hb))
      replace HS := keepA1 HS
      replace HX := Lib.hid (HX.out.drew 1)
      replace HL := Lib.hid (HL.out.drew 1)
      replace HB := keepB1 HB
      refine rgStart (S := (fun w' => w'.heap[gS]? = some (.cells (nmA v A c) 29 (0, 0)))) (n := 13) #[false, false, false, false, false, false, false, false, false, false, false, false, false] (by kernel_rfl) rfl rfl HS.out (fun hHeld => ?_)
      refine rgTake (i := 0) (N := some 16) (oi := { dst := some 16, op := Op.load 29 (Operand.tmp 3), type := 29, pos := "law.go:57", after := #[], guard := none }) (v := _) #[true, false, false, false, false, false, false, false, false, false, false, false, false] rfl rfl (by kernel_rfl) (fun _ _ _ h => h) (yieldsRow (by rfl) _ _ rfl _ rfl (fun _ h => h) Try.underlying29 rfl (nm_szV kv _ _)) hHeld ?_
      simp only [Act.put, List.setIfInBounds_toArray, List.set_cons_zero, List.set_cons_succ]
      refine rgTake (i := 1) (N := some 17) (oi := { dst := some 17, op := Op.move (Operand.tmp 1), type := 3, pos := "law.go:57", after := #[], guard := none }) (v := ?_) #[true, true, false, false, false, false, false, false, false, false, false, false, false] rfl rfl (by kernel_rfl) (fun _ _ _ h => h) (Or.inl ⟨by rfl, ?_⟩) hHeld ?_
      rotate_left
      · intro w' hSw; (try dsimp only at hSw); skip; go_simp; try with_reducible rfl
      simp only [Act.put, List.setIfInBounds_toArray, List.set_cons_zero, List.set_cons_succ]
      refine rgTake (i := 2) (N := some 18) (oi := { dst := some 18, op := Op.move (Operand.tmp 2), type := 33, pos := "law.go:57", after := #[], guard := none }) (v := ?_) #[true, true, true, false, false, false, false, false, false, false, false, false, false] rfl rfl (by kernel_rfl) (fun _ _ _ h => h) (Or.inl ⟨by rfl, ?_⟩) hHeld ?_
      rotate_left
      · intro w' hSw; (try dsimp only at hSw); skip; go_simp; try with_reducible rfl
      simp only [Act.put, List.setIfInBounds_toArray, List.set_cons_zero, List.set_cons_succ]
      refine rgTake (i := 4) (N := some 20) (oi := { dst := some 20, op := Op.load 29 (Operand.tmp 3), type := 29, pos := "law.go:57", after := #[], guard := none }) (v := _) #[true, true, true, false, true, false, false, false, false, false, false, false, false] rfl rfl (by kernel_rfl) (fun _ _ _ h => h) (yieldsRow (by rfl) _ _ rfl _ rfl (fun _ h => h) Try.underlying29 rfl (nm_szV kv _ _)) hHeld ?_
      simp only [Act.put, List.setIfInBounds_toArray, List.set_cons_zero, List.set_cons_succ]
      refine rgTake (i := 5) (N := some 21) (oi := { dst := some 21, op := Op.move (Operand.tmp 1), type := 3, pos := "law.go:57", after := #[], guard := none }) (v := ?_) #[true, true, true, false, true, true, false, false, false, false, false, false, false] rfl rfl (by kernel_rfl) (fun _ _ _ h => h) (Or.inl ⟨by rfl, ?_⟩) hHeld ?_
      rotate_left
      · intro w' hSw; (try dsimp only at hSw); skip; go_simp; try with_reducible rfl
      simp only [Act.put, List.setIfInBounds_toArray, List.set_cons_zero, List.set_cons_succ]
      refine rgTake (i := 6) (N := some 22) (oi := { dst := some 22, op := Op.move (Operand.tmp 2), type := 33, pos := "law.go:57", after := #[], guard := none }) (v := ?_) #[true, true, true, false, true, true, true, false, false, false, false, false, false] rfl rfl (by kernel_rfl) (fun _ _ _ h => h) (Or.inl ⟨by rfl, ?_⟩) hHeld ?_
      rotate_left
      · intro w' hSw; (try dsimp only at hSw); skip; go_simp; try with_reducible rfl
      simp only [Act.put, List.setIfInBounds_toArray, List.set_cons_zero, List.set_cons_succ]
      refine rgCall (i := 3) (N := some 19) (oi := { dst := some 19, op := Op.call { callee := Callee.value (Operand.func 24), args := #[Operand.tmp 16, Operand.tmp 17, Operand.tmp 18], argTypes := #[29, 3, 33] }, type := 4, pos := "law.go:57", after := #[{ on := 0, ground := Ground.data }, { on := 1, ground := Ground.data }, { on := 2, ground := Ground.data }], guard := none }) #[true, true, true, true, true, true, true, false, false, false, false, false, false] rfl rfl (by kernel_rfl) (fun K hK => ?_)
      go_simp
      (go_at_call 24; refine (rgt_any v A B c d n fl _ HX.out kv HL.out hfl).mono ?_; rintro e w5 ⟨rfl, hb⟩; rw [HRP.out]; replace HS := keepA HS hb; replace HX := Lib.hid (HX.out.below hb); replace HL := Lib.hid (HL.out.below hb); replace HB := keepB HB hb)
      refine hK.out _ _ HS.out (fun hHeld => ?_)
      (try simp only [Act.put, List.setIfInBounds_toArray, List.set_cons_zero, List.set_cons_succ])
      clear hK K
      refine rgCall (i := 7) (N := some 23) (oi := { dst := some 23, op := Op.call { callee := Callee.value (Operand.func 25), args := #[Operand.tmp 20, Operand.tmp 21, Operand.tmp 22], argTypes := #[29, 3, 33] }, type := 4, pos := "law.go:57", after := #[{ on := 4, ground := Ground.data }, { on := 5, ground := Ground.data }, { on := 6, ground := Ground.data }, { on := 3, ground := Ground.chain }], guard := none }) #[true, true, true, true, true, true, true, true, false, false, false, false, false] rfl rfl (by kernel_rfl) (fun K hK => ?_)
      go_simp
      (go_at_call 25; refine (rrgt_any v A B c d n fl _ HX.out kv HL.out hfl).mono ?_; rintro e w6 ⟨rfl, hb⟩; rw [HRR.out]; replace HS := keepA HS hb; replace HX := Lib.hid (HX.out.below hb); replace HL := Lib.hid (HL.out.below hb); replace HB := keepB HB hb)
      refine hK.out _ _ HS.out (fun hHeld => ?_)
      (try simp only [Act.put, List.setIfInBounds_toArray, List.set_cons_zero, List.set_cons_succ])
      clear hK K
      refine rgTake (i := 8) (N := some 24) (oi := { dst := some 24, op := Op.binOp BinOp.eql 4 (Operand.tmp 19) (Operand.tmp 23) 4, type := 4, pos := "law.go:57", after := #[{ on := 3, ground := Ground.data }, { on := 7, ground := Ground.data }], guard := none }) (v := ?_) #[true, true, true, true, true, true, true, true, true, false, false, false, false] rfl rfl (by kernel_rfl) (fun _ _ _ h => h) (Or.inl ⟨by rfl, ?_⟩) hHeld ?_
      rotate_left
      · intro w' hSw; (try dsimp only at hSw); skip; go_simp; try with_reducible rfl
      simp only [Act.put, List.setIfInBounds_toArray, List.set_cons_zero, List.set_cons_succ]
      refine rgTake (i := 9) (N := some 25) (oi := { dst := some 25, op := Op.move (Operand.tmp 24), type := 4, pos := "law.go:57", after := #[{ on := 8, ground := Ground.data }, { on := 7, ground := Ground.chain }], guard := none }) (v := ?_) #[true, true, true, true, true, true, true, true, true, true, false, false, false] rfl rfl (by kernel_rfl) (fun _ _ _ h => h) (Or.inl ⟨by rfl, ?_⟩) hHeld ?_
      rotate_left
      · intro w' hSw; (try dsimp only at hSw); skip; go_simp; try with_reducible rfl
      simp only [Act.put, List.setIfInBounds_toArray, List.set_cons_zero, List.set_cons_succ]
      refine rgCall (i := 10) (N := some 26) (oi := { dst := some 26, op := Op.call { callee := Callee.value (Operand.func 9), args := #[], argTypes := #[] }, type := 4, pos := "law.go:57", after := #[{ on := 9, ground := Ground.chain }, { on := 9, ground := Ground.guard }], guard := some (9, true) }) #[true, true, true, true, true, true, true, true, true, true, true, false, false] rfl rfl (by kernel_rfl) (fun K hK => ?_)
      go_simp
      (go_at_call 9; refine (awake_any _).mono ?_; rintro e w4 ⟨rfl, hb⟩; replace HS := keepA HS hb; replace HB := keepB HB hb)
      refine hK.out _ _ HS.out (fun hHeld => ?_)
      (try simp only [Act.put, List.setIfInBounds_toArray, List.set_cons_zero, List.set_cons_succ])
      clear hK K
      refine rgTake (i := 11) (N := some 27) (oi := { dst := some 27, op := Op.pick (Operand.tmp 25) (Operand.tmp 26) (Operand.const (Value.bool false)), type := 4, pos := "law.go:57", after := #[{ on := 9, ground := Ground.data }, { on := 10, ground := Ground.data }], guard := none }) (v := ?_) #[true, true, true, true, true, true, true, true, true, true, true, true, false] rfl rfl (by kernel_rfl) (fun _ _ _ h => h) (Or.inl ⟨by rfl, ?_⟩) hHeld ?_
      rotate_left
      · intro w' hSw; (try dsimp only at hSw); skip; go_simp; try with_reducible rfl
      simp only [Act.put, List.setIfInBounds_toArray, List.set_cons_zero, List.set_cons_succ]
      refine rgTake (i := 12) (N := some 6) (oi := { dst := some 6, op := Op.assign (Operand.tmp 27), type := 4, pos := "law.go:57", after := #[{ on := 11, ground := Ground.data }, { on := 10, ground := Ground.chain }, { on := 0, ground := Ground.phase }, { on := 1, ground := Ground.phase }, { on := 2, ground := Ground.phase }, { on := 3, ground := Ground.phase }, { on := 4, ground := Ground.phase }, { on := 5, ground := Ground.phase }, { on := 6, ground := Ground.phase }, { on := 7, ground := Ground.phase }, { on := 8, ground := Ground.phase }, { on := 9, ground := Ground.phase }, { on := 10, ground := Ground.phase }, { on := 11, ground := Ground.phase }], guard := none }) (v := ?_) #[true, true, true, true, true, true, true, true, true, true, true, true, true] rfl rfl (by kernel_rfl) (fun _ _ _ h => h) (Or.inl ⟨by rfl, ?_⟩) hHeld ?_
      rotate_left
      · intro w' hSw; (try dsimp only at hSw); skip; go_simp; try with_reducible rfl
      simp only [Act.put, List.setIfInBounds_toArray, List.set_cons_zero, List.set_cons_succ]
      refine rgDone (by kernel_rfl) ?_ _
      go_wp2
      go_ret
      exact ⟨rfl, HB.out.1⟩
end Go.Proofs.Ytpgighhnhidpcaa.My
