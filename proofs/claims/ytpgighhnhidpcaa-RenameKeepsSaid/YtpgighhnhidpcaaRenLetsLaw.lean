/- The law of Lets: any names when a Uop is undone, or retires. -/
import Derived.Test.YtpgighhnhidpcaaRenAwake
set_option linter.unusedSimpArgs false
set_option linter.unusedVariables false
namespace Go.Proofs.Ytpgighhnhidpcaa.My
open Go.RowKit
theorem small_v (v : NmV) (A : Option Addr) (c : Nat) (w : World) (hv : v.Ok) : Calls Try.prog 8 #[.agg (nmA v A c)] w fun e w' => e = .returned (.bool (decide (v.n ≤ 100))) ∧ Below w.heap.size w w' := small_any A v.n c v.m v.d v.h v.N v.s w hv.m hv.d hv.n
theorem same_v (v : NmV) (hv : v.Ok) (A C : Option Addr) (c k : Nat) (w : World) (hx : RdA .i64 w A v.n v.xs) (hy : RdA .i64 w C v.n v.xs) : Calls Try.prog 12 #[.agg (nmA v A c), .agg (nmA v C k)] w fun e w' => e = .returned (.bool true) ∧ Below w.heap.size w w' := same_any A C v.n c k v.m v.d v.h v.N v.s v.xs w hx hy hv.n hv.m hv.d
theorem lets_long (v : NmV) (A : Option Addr) (c : Nat) (r : RenV) (w : World) (kv : v.Ok) (hx : RdA .i64 w A v.n v.xs) (hs : decide (v.n ≤ 100) = false) : Calls Try.prog 4 #[.agg (nmA v A c), .agg (rA r)] w fun e w' => e = .returned (.bool true) ∧ Below w.heap.size w w' := by
  have HB := startB w
  have HX := Lib.hid hx
  clear hx
  go_enter Try.func4, Try.ntmps4
  go_wp2_with (first | (refine wlBox rfl 29 _ rfl (nmA v A c) rfl ?_; intro gS w1 hgS hgS' hs hb; have HS := Lib.hid hs; replace HX := Lib.hid (HX.out.below hb); replace HB := keepB HB hb; clear hs hb) | (refine wlBox rfl 52 _ rfl (rA r) rfl ?_; intro gR w2 hgR hgR' hs hb; have HR := Lib.hid hs; replace HS := keepA HS hb; replace HX := Lib.hid (HX.out.below hb); replace HB := keepB HB hb; clear hs hb) | (refine rowLoad rfl 29 _ rfl gS rfl HS.out Try.underlying29 rfl (nm_szV kv _ _) ?_) | (go_at_call 8; refine (small_v v A c _ kv).mono ?_; rintro e w3 ⟨rfl, hb⟩; rw [hs]; replace HS := keepA HS hb; replace HR := keepA HR hb; replace HX := Lib.hid (HX.out.below hb); replace HB := keepB HB hb; clear hb) | (go_at_call 9; refine (awake_any _).mono ?_; rintro e w4 ⟨rfl, hb⟩; replace HB := keepB HB hb))
  go_ret
  exact ⟨rfl, HB.out.1⟩
set_option maxRecDepth 100000 in
set_option maxHeartbeats 4000000 in
theorem lets_walk (v V1 V2 : NmV) (r : RenV) (kv : v.Ok) (k1 : V1.Ok) (k2 : V2.Ok) (hs : decide (v.n ≤ 100) = true)
    (hU : ∀ A c w, RdA .i64 w A v.n v.xs → Calls Try.prog 18 #[.agg (nmA v A c), .agg (rA r)] w fun e w' => NmP w w' A V1 e)
    (hRU : ∀ A c w, RdA .i64 w A v.n v.xs → Calls Try.prog 19 #[.agg (nmA v A c), .agg (rA r)] w fun e w' => NmP w w' A V1 e)
    (hT : ∀ A c w, RdA .i64 w A v.n v.xs → Calls Try.prog 20 #[.agg (nmA v A c), .agg (rA r)] w fun e w' => NmP w w' A V2 e)
    (hRT : ∀ A c w, RdA .i64 w A v.n v.xs → Calls Try.prog 21 #[.agg (nmA v A c), .agg (rA r)] w fun e w' => NmP w w' A V2 e)
    (A : Option Addr) (c : Nat) (w : World) (hx : RdA .i64 w A v.n v.xs) : Calls Try.prog 4 #[.agg (nmA v A c), .agg (rA r)] w fun e w' => e = .returned (.bool true) ∧ Below w.heap.size w w' := by
  have HB := startB w
  have HX := Lib.hid hx
  clear hx
  go_enter Try.func4, Try.ntmps4
  go_wp2_with (first | (refine wlBox rfl 29 _ rfl (nmA v A c) rfl ?_; intro gS w1 hgS hgS' hs hb; have HS := Lib.hid hs; replace HX := Lib.hid (HX.out.below hb); replace HB := keepB HB hb; clear hs hb) | (refine wlBox rfl 52 _ rfl (rA r) rfl ?_; intro gR w2 hgR hgR' hs hb; have HR := Lib.hid hs; replace HS := keepA HS hb; replace HX := Lib.hid (HX.out.below hb); replace HB := keepB HB hb; clear hs hb) | (refine rowLoad rfl 29 _ rfl gS rfl HS.out Try.underlying29 rfl (nm_szV kv _ _) ?_) | (go_at_call 8; refine (small_v v A c _ kv).mono ?_; rintro e w3 ⟨rfl, hb⟩; rw [hs]; replace HS := keepA HS hb; replace HR := keepA HR hb; replace HX := Lib.hid (HX.out.below hb); replace HB := keepB HB hb; clear hb))
  replace HS := keepA1 HS
  replace HR := keepA1 HR
  replace HX := Lib.hid (HX.out.drew 1)
  replace HB := keepB1 HB
  refine rgStart (S := (fun w' => w'.heap[gS]? = some (.cells (nmA v A c) 29 (0, 0)) ∧ w'.heap[gR]? = some (.cells (rA r) 52 (0, 0)))) (n := 20) #[false, false, false, false, false, false, false, false, false, false, false, false, false, false, false, false, false, false, false, false] (by kernel_rfl) rfl rfl ⟨HS.out, HR.out⟩ (fun hHeld => ?_)
  refine rgTake (i := 0) (N := some 9) (oi := { dst := some 9, op := Op.load 29 (Operand.tmp 2), type := 29, pos := "law.go:49", after := #[], guard := none }) (v := _) #[true, false, false, false, false, false, false, false, false, false, false, false, false, false, false, false, false, false, false, false] rfl rfl (by kernel_rfl) (fun _ _ _ h => h) (by first | exact yieldsRow (by rfl) _ _ rfl _ rfl (fun _ h => h.1) Try.underlying29 rfl (nm_szV kv _ _) | exact yieldsRow (by rfl) _ _ rfl _ rfl (fun _ h => h.2) Try.underlying52 rfl infoRen) hHeld ?_
  simp only [Act.put, List.setIfInBounds_toArray, List.set_cons_zero, List.set_cons_succ]
  refine rgTake (i := 1) (N := some 10) (oi := { dst := some 10, op := Op.load 52 (Operand.tmp 3), type := 52, pos := "law.go:49", after := #[], guard := none }) (v := _) #[true, true, false, false, false, false, false, false, false, false, false, false, false, false, false, false, false, false, false, false] rfl rfl (by kernel_rfl) (fun _ _ _ h => h) (by first | exact yieldsRow (by rfl) _ _ rfl _ rfl (fun _ h => h.1) Try.underlying29 rfl (nm_szV kv _ _) | exact yieldsRow (by rfl) _ _ rfl _ rfl (fun _ h => h.2) Try.underlying52 rfl infoRen) hHeld ?_
  simp only [Act.put, List.setIfInBounds_toArray, List.set_cons_zero, List.set_cons_succ]
  refine rgTake (i := 3) (N := some 12) (oi := { dst := some 12, op := Op.load 29 (Operand.tmp 2), type := 29, pos := "law.go:49", after := #[], guard := none }) (v := _) #[true, true, false, true, false, false, false, false, false, false, false, false, false, false, false, false, false, false, false, false] rfl rfl (by kernel_rfl) (fun _ _ _ h => h) (by first | exact yieldsRow (by rfl) _ _ rfl _ rfl (fun _ h => h.1) Try.underlying29 rfl (nm_szV kv _ _) | exact yieldsRow (by rfl) _ _ rfl _ rfl (fun _ h => h.2) Try.underlying52 rfl infoRen) hHeld ?_
  simp only [Act.put, List.setIfInBounds_toArray, List.set_cons_zero, List.set_cons_succ]
  refine rgTake (i := 4) (N := some 13) (oi := { dst := some 13, op := Op.load 52 (Operand.tmp 3), type := 52, pos := "law.go:49", after := #[], guard := none }) (v := _) #[true, true, false, true, true, false, false, false, false, false, false, false, false, false, false, false, false, false, false, false] rfl rfl (by kernel_rfl) (fun _ _ _ h => h) (by first | exact yieldsRow (by rfl) _ _ rfl _ rfl (fun _ h => h.1) Try.underlying29 rfl (nm_szV kv _ _) | exact yieldsRow (by rfl) _ _ rfl _ rfl (fun _ h => h.2) Try.underlying52 rfl infoRen) hHeld ?_
  simp only [Act.put, List.setIfInBounds_toArray, List.set_cons_zero, List.set_cons_succ]
  refine rgCall (i := 2) (N := some 11) (oi := { dst := some 11, op := Op.call { callee := Callee.value (Operand.func 18), args := #[Operand.tmp 9, Operand.tmp 10], argTypes := #[29, 52] }, type := 29, pos := "law.go:49", after := #[{ on := 0, ground := Ground.data }, { on := 1, ground := Ground.data }], guard := none }) #[true, true, true, true, true, false, false, false, false, false, false, false, false, false, false, false, false, false, false, false] rfl rfl (by kernel_rfl) (fun K hK => ?_)
  go_simp
  (go_at_call 18; refine (hU A c _ HX.out).mono ?_; rintro e w5 ⟨A1, c1, rfl, hx1, _, hb⟩; replace HX := Lib.hid (HX.out.below hb); replace HB := keepB HB hb; have HX1 := Lib.hid hx1; clear hx1)
  refine hK.out _ _ ⟨(keepA (Lib.hid hHeld.out.1) hb).out, (keepA (Lib.hid hHeld.out.2) hb).out⟩ (fun hHeld => ?_)
  (try simp only [Act.put, List.setIfInBounds_toArray, List.set_cons_zero, List.set_cons_succ])
  clear hK K
  refine rgCall (i := 5) (N := some 14) (oi := { dst := some 14, op := Op.call { callee := Callee.value (Operand.func 19), args := #[Operand.tmp 12, Operand.tmp 13], argTypes := #[29, 52] }, type := 29, pos := "law.go:49", after := #[{ on := 3, ground := Ground.data }, { on := 4, ground := Ground.data }, { on := 2, ground := Ground.chain }], guard := none }) #[true, true, true, true, true, true, false, false, false, false, false, false, false, false, false, false, false, false, false, false] rfl rfl (by kernel_rfl) (fun K hK => ?_)
  go_simp
  (go_at_call 19; refine (hRU A c _ HX.out).mono ?_; rintro e w6 ⟨A2, c2, rfl, hx1, _, hb⟩; replace HX := Lib.hid (HX.out.below hb); replace HX1 := Lib.hid (HX1.out.below hb); replace HB := keepB HB hb; have HX2 := Lib.hid hx1; clear hx1)
  refine hK.out _ _ ⟨(keepA (Lib.hid hHeld.out.1) hb).out, (keepA (Lib.hid hHeld.out.2) hb).out⟩ (fun hHeld => ?_)
  (try simp only [Act.put, List.setIfInBounds_toArray, List.set_cons_zero, List.set_cons_succ])
  clear hK K
  refine rgCall (i := 6) (N := some 15) (oi := { dst := some 15, op := Op.call { callee := Callee.value (Operand.func 12), args := #[Operand.tmp 11, Operand.tmp 14], argTypes := #[29, 29] }, type := 4, pos := "law.go:49", after := #[{ on := 2, ground := Ground.data }, { on := 5, ground := Ground.data }, { on := 5, ground := Ground.chain }], guard := none }) #[true, true, true, true, true, true, true, false, false, false, false, false, false, false, false, false, false, false, false, false] rfl rfl (by kernel_rfl) (fun K hK => ?_)
  go_simp
  (go_at_call 12; first | (refine (same_v V1 k1 _ _ _ _ _ HX1.out HX2.out).mono ?_; clear HX1 HX2; rintro e w7 ⟨rfl, hb⟩; replace HX := Lib.hid (HX.out.below hb); replace HB := keepB HB hb) | (refine (same_v V2 k2 _ _ _ _ _ HX3.out HX4.out).mono ?_; clear HX3 HX4; rintro e w7 ⟨rfl, hb⟩; replace HX := Lib.hid (HX.out.below hb); replace HB := keepB HB hb))
  refine hK.out _ _ ⟨(keepA (Lib.hid hHeld.out.1) hb).out, (keepA (Lib.hid hHeld.out.2) hb).out⟩ (fun hHeld => ?_)
  (try simp only [Act.put, List.setIfInBounds_toArray, List.set_cons_zero, List.set_cons_succ])
  clear hK K
  refine rgTake (i := 7) (N := some 16) (oi := { dst := some 16, op := Op.move (Operand.tmp 15), type := 4, pos := "law.go:49", after := #[{ on := 6, ground := Ground.data }, { on := 6, ground := Ground.chain }], guard := none }) (v := ?_) #[true, true, true, true, true, true, true, true, false, false, false, false, false, false, false, false, false, false, false, false] rfl rfl (by kernel_rfl) (fun _ _ _ h => h) (Or.inl ⟨by rfl, ?_⟩) hHeld ?_
  rotate_left
  · intro w' hSw; (try dsimp only at hSw); skip; go_simp; try with_reducible rfl
  simp only [Act.put, List.setIfInBounds_toArray, List.set_cons_zero, List.set_cons_succ]
  refine rgTake (i := 8) (N := some 17) (oi := { dst := some 17, op := Op.load 29 (Operand.tmp 2), type := 29, pos := "law.go:49", after := #[{ on := 7, ground := Ground.guard }], guard := some (7, true) }) (v := _) #[true, true, true, true, true, true, true, true, true, false, false, false, false, false, false, false, false, false, false, false] rfl rfl (by kernel_rfl) (fun _ _ _ h => h) (by first | exact yieldsRow (by rfl) _ _ rfl _ rfl (fun _ h => h.1) Try.underlying29 rfl (nm_szV kv _ _) | exact yieldsRow (by rfl) _ _ rfl _ rfl (fun _ h => h.2) Try.underlying52 rfl infoRen) hHeld ?_
  simp only [Act.put, List.setIfInBounds_toArray, List.set_cons_zero, List.set_cons_succ]
  refine rgTake (i := 9) (N := some 18) (oi := { dst := some 18, op := Op.load 52 (Operand.tmp 3), type := 52, pos := "law.go:49", after := #[{ on := 7, ground := Ground.guard }], guard := some (7, true) }) (v := _) #[true, true, true, true, true, true, true, true, true, true, false, false, false, false, false, false, false, false, false, false] rfl rfl (by kernel_rfl) (fun _ _ _ h => h) (by first | exact yieldsRow (by rfl) _ _ rfl _ rfl (fun _ h => h.1) Try.underlying29 rfl (nm_szV kv _ _) | exact yieldsRow (by rfl) _ _ rfl _ rfl (fun _ h => h.2) Try.underlying52 rfl infoRen) hHeld ?_
  simp only [Act.put, List.setIfInBounds_toArray, List.set_cons_zero, List.set_cons_succ]
  refine rgTake (i := 11) (N := some 20) (oi := { dst := some 20, op := Op.load 29 (Operand.tmp 2), type := 29, pos := "law.go:49", after := #[{ on := 7, ground := Ground.guard }], guard := some (7, true) }) (v := _) #[true, true, true, true, true, true, true, true, true, true, false, true, false, false, false, false, false, false, false, false] rfl rfl (by kernel_rfl) (fun _ _ _ h => h) (by first | exact yieldsRow (by rfl) _ _ rfl _ rfl (fun _ h => h.1) Try.underlying29 rfl (nm_szV kv _ _) | exact yieldsRow (by rfl) _ _ rfl _ rfl (fun _ h => h.2) Try.underlying52 rfl infoRen) hHeld ?_
  simp only [Act.put, List.setIfInBounds_toArray, List.set_cons_zero, List.set_cons_succ]
  refine rgTake (i := 12) (N := some 21) (oi := { dst := some 21, op := Op.load 52 (Operand.tmp 3), type := 52, pos := "law.go:49", after := #[{ on := 7, ground := Ground.guard }], guard := some (7, true) }) (v := _) #[true, true, true, true, true, true, true, true, true, true, false, true, true, false, false, false, false, false, false, false] rfl rfl (by kernel_rfl) (fun _ _ _ h => h) (by first | exact yieldsRow (by rfl) _ _ rfl _ rfl (fun _ h => h.1) Try.underlying29 rfl (nm_szV kv _ _) | exact yieldsRow (by rfl) _ _ rfl _ rfl (fun _ h => h.2) Try.underlying52 rfl infoRen) hHeld ?_
  simp only [Act.put, List.setIfInBounds_toArray, List.set_cons_zero, List.set_cons_succ]
  refine rgCall (i := 10) (N := some 19) (oi := { dst := some 19, op := Op.call { callee := Callee.value (Operand.func 20), args := #[Operand.tmp 17, Operand.tmp 18], argTypes := #[29, 52] }, type := 29, pos := "law.go:49", after := #[{ on := 8, ground := Ground.data }, { on := 9, ground := Ground.data }, { on := 7, ground := Ground.chain }, { on := 7, ground := Ground.guard }], guard := some (7, true) }) #[true, true, true, true, true, true, true, true, true, true, true, true, true, false, false, false, false, false, false, false] rfl rfl (by kernel_rfl) (fun K hK => ?_)
  go_simp
  (go_at_call 20; refine (hT A c _ HX.out).mono ?_; rintro e w5 ⟨A3, c3, rfl, hx1, _, hb⟩; replace HX := Lib.hid (HX.out.below hb); replace HB := keepB HB hb; have HX3 := Lib.hid hx1; clear hx1)
  refine hK.out _ _ ⟨(keepA (Lib.hid hHeld.out.1) hb).out, (keepA (Lib.hid hHeld.out.2) hb).out⟩ (fun hHeld => ?_)
  (try simp only [Act.put, List.setIfInBounds_toArray, List.set_cons_zero, List.set_cons_succ])
  clear hK K
  refine rgCall (i := 13) (N := some 22) (oi := { dst := some 22, op := Op.call { callee := Callee.value (Operand.func 21), args := #[Operand.tmp 20, Operand.tmp 21], argTypes := #[29, 52] }, type := 29, pos := "law.go:49", after := #[{ on := 11, ground := Ground.data }, { on := 12, ground := Ground.data }, { on := 10, ground := Ground.chain }, { on := 7, ground := Ground.guard }], guard := some (7, true) }) #[true, true, true, true, true, true, true, true, true, true, true, true, true, true, false, false, false, false, false, false] rfl rfl (by kernel_rfl) (fun K hK => ?_)
  go_simp
  (go_at_call 21; refine (hRT A c _ HX.out).mono ?_; rintro e w6 ⟨A4, c4, rfl, hx1, _, hb⟩; replace HX := Lib.hid (HX.out.below hb); replace HX3 := Lib.hid (HX3.out.below hb); replace HB := keepB HB hb; have HX4 := Lib.hid hx1; clear hx1)
  refine hK.out _ _ ⟨(keepA (Lib.hid hHeld.out.1) hb).out, (keepA (Lib.hid hHeld.out.2) hb).out⟩ (fun hHeld => ?_)
  (try simp only [Act.put, List.setIfInBounds_toArray, List.set_cons_zero, List.set_cons_succ])
  clear hK K
  refine rgCall (i := 14) (N := some 23) (oi := { dst := some 23, op := Op.call { callee := Callee.value (Operand.func 12), args := #[Operand.tmp 19, Operand.tmp 22], argTypes := #[29, 29] }, type := 4, pos := "law.go:49", after := #[{ on := 10, ground := Ground.data }, { on := 13, ground := Ground.data }, { on := 13, ground := Ground.chain }, { on := 7, ground := Ground.guard }], guard := some (7, true) }) #[true, true, true, true, true, true, true, true, true, true, true, true, true, true, true, false, false, false, false, false] rfl rfl (by kernel_rfl) (fun K hK => ?_)
  go_simp
  (go_at_call 12; first | (refine (same_v V1 k1 _ _ _ _ _ HX1.out HX2.out).mono ?_; clear HX1 HX2; rintro e w7 ⟨rfl, hb⟩; replace HX := Lib.hid (HX.out.below hb); replace HB := keepB HB hb) | (refine (same_v V2 k2 _ _ _ _ _ HX3.out HX4.out).mono ?_; clear HX3 HX4; rintro e w7 ⟨rfl, hb⟩; replace HX := Lib.hid (HX.out.below hb); replace HB := keepB HB hb))
  refine hK.out _ _ ⟨(keepA (Lib.hid hHeld.out.1) hb).out, (keepA (Lib.hid hHeld.out.2) hb).out⟩ (fun hHeld => ?_)
  (try simp only [Act.put, List.setIfInBounds_toArray, List.set_cons_zero, List.set_cons_succ])
  clear hK K
  refine rgTake (i := 15) (N := some 24) (oi := { dst := some 24, op := Op.pick (Operand.tmp 16) (Operand.tmp 23) (Operand.const (Value.bool false)), type := 4, pos := "law.go:49", after := #[{ on := 7, ground := Ground.data }, { on := 14, ground := Ground.data }], guard := none }) (v := ?_) #[true, true, true, true, true, true, true, true, true, true, true, true, true, true, true, true, false, false, false, false] rfl rfl (by kernel_rfl) (fun _ _ _ h => h) (Or.inl ⟨by rfl, ?_⟩) hHeld ?_
  rotate_left
  · intro w' hSw; (try dsimp only at hSw); skip; go_simp; try with_reducible rfl
  simp only [Act.put, List.setIfInBounds_toArray, List.set_cons_zero, List.set_cons_succ]
  refine rgTake (i := 16) (N := some 25) (oi := { dst := some 25, op := Op.move (Operand.tmp 24), type := 4, pos := "law.go:49", after := #[{ on := 15, ground := Ground.data }, { on := 14, ground := Ground.chain }], guard := none }) (v := ?_) #[true, true, true, true, true, true, true, true, true, true, true, true, true, true, true, true, true, false, false, false] rfl rfl (by kernel_rfl) (fun _ _ _ h => h) (Or.inl ⟨by rfl, ?_⟩) hHeld ?_
  rotate_left
  · intro w' hSw; (try dsimp only at hSw); skip; go_simp; try with_reducible rfl
  simp only [Act.put, List.setIfInBounds_toArray, List.set_cons_zero, List.set_cons_succ]
  refine rgCall (i := 17) (N := some 26) (oi := { dst := some 26, op := Op.call { callee := Callee.value (Operand.func 9), args := #[], argTypes := #[] }, type := 4, pos := "law.go:49", after := #[{ on := 16, ground := Ground.chain }, { on := 16, ground := Ground.guard }], guard := some (16, true) }) #[true, true, true, true, true, true, true, true, true, true, true, true, true, true, true, true, true, true, false, false] rfl rfl (by kernel_rfl) (fun K hK => ?_)
  go_simp
  (go_at_call 9; refine (awake_any _).mono ?_; rintro e w4 ⟨rfl, hb⟩; replace HB := keepB HB hb)
  refine hK.out _ _ ⟨(keepA (Lib.hid hHeld.out.1) hb).out, (keepA (Lib.hid hHeld.out.2) hb).out⟩ (fun hHeld => ?_)
  (try simp only [Act.put, List.setIfInBounds_toArray, List.set_cons_zero, List.set_cons_succ])
  clear hK K
  refine rgTake (i := 18) (N := some 27) (oi := { dst := some 27, op := Op.pick (Operand.tmp 25) (Operand.tmp 26) (Operand.const (Value.bool false)), type := 4, pos := "law.go:49", after := #[{ on := 16, ground := Ground.data }, { on := 17, ground := Ground.data }], guard := none }) (v := ?_) #[true, true, true, true, true, true, true, true, true, true, true, true, true, true, true, true, true, true, true, false] rfl rfl (by kernel_rfl) (fun _ _ _ h => h) (Or.inl ⟨by rfl, ?_⟩) hHeld ?_
  rotate_left
  · intro w' hSw; (try dsimp only at hSw); skip; go_simp; try with_reducible rfl
  simp only [Act.put, List.setIfInBounds_toArray, List.set_cons_zero, List.set_cons_succ]
  refine rgTake (i := 19) (N := some 4) (oi := { dst := some 4, op := Op.assign (Operand.tmp 27), type := 4, pos := "law.go:49", after := #[{ on := 18, ground := Ground.data }, { on := 17, ground := Ground.chain }, { on := 0, ground := Ground.phase }, { on := 1, ground := Ground.phase }, { on := 2, ground := Ground.phase }, { on := 3, ground := Ground.phase }, { on := 4, ground := Ground.phase }, { on := 5, ground := Ground.phase }, { on := 6, ground := Ground.phase }, { on := 7, ground := Ground.phase }, { on := 8, ground := Ground.phase }, { on := 9, ground := Ground.phase }, { on := 10, ground := Ground.phase }, { on := 11, ground := Ground.phase }, { on := 12, ground := Ground.phase }, { on := 13, ground := Ground.phase }, { on := 14, ground := Ground.phase }, { on := 15, ground := Ground.phase }, { on := 16, ground := Ground.phase }, { on := 17, ground := Ground.phase }, { on := 18, ground := Ground.phase }], guard := none }) (v := ?_) #[true, true, true, true, true, true, true, true, true, true, true, true, true, true, true, true, true, true, true, true] rfl rfl (by kernel_rfl) (fun _ _ _ h => h) (Or.inl ⟨by rfl, ?_⟩) hHeld ?_
  rotate_left
  · intro w' hSw; (try dsimp only at hSw); skip; go_simp; try with_reducible rfl
  simp only [Act.put, List.setIfInBounds_toArray, List.set_cons_zero, List.set_cons_succ]
  refine rgDone (by kernel_rfl) ?_ _
  go_wp2
  go_ret
  exact ⟨rfl, HB.out.1⟩
theorem lets_any (v : NmV) (A : Option Addr) (c : Nat) (r : RenV) (w : World) (kv : v.Ok) (hx : RdA .i64 w A v.n v.xs) : Calls Try.prog 4 #[.agg (nmA v A c), .agg (rA r)] w fun e w' => e = .returned (.bool true) ∧ Below w.heap.size w w' := by
  cases hs : decide (v.n ≤ 100) with
  | false => exact lets_long v A c r w kv hx hs
  | true => exact lets_walk v (unV v r) (rtV v r) r kv (unV_ok kv r) (rtV_ok kv r) hs (fun A c w h => undo_v v A c r w h kv) (fun A c w h => rundo_v v A c r w h kv) (fun A c w h => retire_v v A c r w h kv) (fun A c w h => rretire_v v A c r w h kv) A c w hx
end Go.Proofs.Ytpgighhnhidpcaa.My
