/- Equality of lists of renamed Uops. -/
import Derived.Test.YtpgighhnhidpcaaRenGroup
import Derived.Test.YtpgighhnhidpcaaRenEql
set_option linter.unusedSimpArgs false
set_option linter.unusedVariables false
namespace Go.Proofs.Ytpgighhnhidpcaa.My
open Go.RowKit
theorem rens_get {R : List RenV} {k : Nat} {r : RenV} (h : R[k]? = some r) : (R.map rA)[k]? = some (rA r) := by simp [h]
set_option maxHeartbeats 1000000 in
theorem rens_any (A C : Option Addr) (c d : Nat) (R : List RenV) (w : World) (hx : RwA w A 29 R.length (R.map rA)) (hy : RwA w C 29 R.length (R.map rA)) (hm : R.length ≤ 1000000) : Calls Try.prog 13 #[.slice A R.length c, .slice C R.length d] w fun e w' => e = .returned (.bool true) ∧ Below w.heap.size w w' := by
  have HB := startB w
  have HX := Lib.hid hx
  have HY := Lib.hid hy
  clear hx hy
  go_enter Try.func13, Try.ntmps13
  go_wp2
  go_loopw [5] (fun i wr => ∃ k : Nat, k ≤ R.length ∧ i = .int .i64 k ∧ Hid (RwA wr A 29 R.length (R.map rA)) ∧ Hid (RwA wr C 29 R.length (R.map rA)) ∧ Hid (Below w.heap.size w wr ∧ w.heap.size ≤ wr.heap.size)) (fun i _ => R.length - (intOf i).toNat)
  case atStart => exact ⟨0, Nat.zero_le _, rfl, HX, HY, HB⟩
  case round =>
    clear HX HY HB
    obtain ⟨k, hk, rfl, HX, HY, HB⟩ := hrel
    by_cases hlt : k < R.length
    · have hn0 : 0 < R.length := by omega
      obtain ⟨r, hu⟩ : ∃ r, R[k]? = some r := ⟨_, List.getElem?_eq_getElem hlt⟩
      obtain ⟨b1, o1, rfl, _, _⟩ := HX.out.2.2 hn0
      obtain ⟨b2, o2, rfl, _, _⟩ := HY.out.2.2 hn0
      have q : ∀ w, (Op.equalIn 10000 52 (.agg (rA r)) (.agg (rA r))).run Try.prog w = .ok true w := eqRen 9994 r
      go_wp2
      replace HX := Lib.hid (HX.out.drew 1)
      replace HY := Lib.hid (HY.out.drew 1)
      replace HB := keepB1 HB
      refine rgStart (S := (fun w' => w'.rangeAt b1 (o1 + k * 29) (rA r).toList ∧ w'.rangeAt b2 (o2 + k * 29) (rA r).toList)) (n := 9) #[false, false, false, false, false, false, false, false, false] (by kernel_rfl) rfl rfl ⟨HX.out.at_ hn0 (rens_get hu), HY.out.at_ hn0 (rens_get hu)⟩ (fun hHeld => ?_)
      refine rgTake (i := 0) (N := some 23) (oi := { dst := some 23, op := Op.move (Operand.tmp 0), type := 33, pos := "same.go:116", after := #[], guard := none }) (v := ?_) #[true, false, false, false, false, false, false, false, false] rfl rfl (by kernel_rfl) (fun _ _ _ h => h) (Or.inl ⟨by rfl, ?_⟩) hHeld ?_
      rotate_left
      · intro w' hSw; (try dsimp only at hSw); skip; go_simp; try with_reducible rfl
      simp only [Act.put, List.setIfInBounds_toArray, List.set_cons_zero, List.set_cons_succ]
      refine rgTake (i := 1) (N := some 24) (oi := { dst := some 24, op := Op.move (Operand.tmp 5), type := 3, pos := "same.go:116", after := #[], guard := none }) (v := ?_) #[true, true, false, false, false, false, false, false, false] rfl rfl (by kernel_rfl) (fun _ _ _ h => h) (Or.inl ⟨by rfl, ?_⟩) hHeld ?_
      rotate_left
      · intro w' hSw; (try dsimp only at hSw); skip; go_simp; try with_reducible rfl
      simp only [Act.put, List.setIfInBounds_toArray, List.set_cons_zero, List.set_cons_succ]
      refine rgTake (i := 2) (N := some 25) (oi := { dst := some 25, op := Op.indexAddr 33 (Operand.tmp 23) (Operand.tmp 24), type := 0, pos := "same.go:116", after := #[{ on := 0, ground := Ground.data }, { on := 1, ground := Ground.data }], guard := none }) (v := _) #[true, true, true, false, false, false, false, false, false] rfl rfl (by kernel_rfl) (fun _ _ _ h => h) (yieldsIdx (by rfl) 33 _ _ rfl 52 29 Try.underlying33 sizeRen b1 o1 R.length c k rfl rfl hlt) hHeld ?_
      simp only [Act.put, List.setIfInBounds_toArray, List.set_cons_zero, List.set_cons_succ]
      refine rgTake (i := 3) (N := some 26) (oi := { dst := some 26, op := Op.load 52 (Operand.tmp 25), type := 52, pos := "same.go:116", after := #[{ on := 2, ground := Ground.data }], guard := none }) (v := _) #[true, true, true, true, false, false, false, false, false] rfl rfl (by kernel_rfl) (fun _ _ _ h => h) (by first | exact yieldsMid (by rfl) _ _ rfl b1 (o1 + k * 29) rfl (rA r) (fun _ h => h.1) Try.underlying52 rfl infoRen | exact yieldsMid (by rfl) _ _ rfl b2 (o2 + k * 29) rfl (rA r) (fun _ h => h.2) Try.underlying52 rfl infoRen) hHeld ?_
      simp only [Act.put, List.setIfInBounds_toArray, List.set_cons_zero, List.set_cons_succ]
      refine rgTake (i := 4) (N := some 27) (oi := { dst := some 27, op := Op.move (Operand.tmp 1), type := 33, pos := "same.go:116", after := #[], guard := none }) (v := ?_) #[true, true, true, true, true, false, false, false, false] rfl rfl (by kernel_rfl) (fun _ _ _ h => h) (Or.inl ⟨by rfl, ?_⟩) hHeld ?_
      rotate_left
      · intro w' hSw; (try dsimp only at hSw); skip; go_simp; try with_reducible rfl
      simp only [Act.put, List.setIfInBounds_toArray, List.set_cons_zero, List.set_cons_succ]
      refine rgTake (i := 5) (N := some 28) (oi := { dst := some 28, op := Op.move (Operand.tmp 5), type := 3, pos := "same.go:116", after := #[], guard := none }) (v := ?_) #[true, true, true, true, true, true, false, false, false] rfl rfl (by kernel_rfl) (fun _ _ _ h => h) (Or.inl ⟨by rfl, ?_⟩) hHeld ?_
      rotate_left
      · intro w' hSw; (try dsimp only at hSw); skip; go_simp; try with_reducible rfl
      simp only [Act.put, List.setIfInBounds_toArray, List.set_cons_zero, List.set_cons_succ]
      refine rgTake (i := 6) (N := some 29) (oi := { dst := some 29, op := Op.indexAddr 33 (Operand.tmp 27) (Operand.tmp 28), type := 0, pos := "same.go:116", after := #[{ on := 4, ground := Ground.data }, { on := 5, ground := Ground.data }], guard := none }) (v := _) #[true, true, true, true, true, true, true, false, false] rfl rfl (by kernel_rfl) (fun _ _ _ h => h) (yieldsIdx (by rfl) 33 _ _ rfl 52 29 Try.underlying33 sizeRen b2 o2 R.length d k rfl rfl hlt) hHeld ?_
      simp only [Act.put, List.setIfInBounds_toArray, List.set_cons_zero, List.set_cons_succ]
      refine rgTake (i := 7) (N := some 30) (oi := { dst := some 30, op := Op.load 52 (Operand.tmp 29), type := 52, pos := "same.go:116", after := #[{ on := 6, ground := Ground.data }], guard := none }) (v := _) #[true, true, true, true, true, true, true, true, false] rfl rfl (by kernel_rfl) (fun _ _ _ h => h) (by first | exact yieldsMid (by rfl) _ _ rfl b1 (o1 + k * 29) rfl (rA r) (fun _ h => h.1) Try.underlying52 rfl infoRen | exact yieldsMid (by rfl) _ _ rfl b2 (o2 + k * 29) rfl (rA r) (fun _ h => h.2) Try.underlying52 rfl infoRen) hHeld ?_
      simp only [Act.put, List.setIfInBounds_toArray, List.set_cons_zero, List.set_cons_succ]
      refine rgTake (i := 8) (N := some 31) (oi := { dst := some 31, op := Op.binOp BinOp.neq 52 (Operand.tmp 26) (Operand.tmp 30) 52, type := 4, pos := "same.go:116", after := #[{ on := 3, ground := Ground.data }, { on := 7, ground := Ground.data }], guard := none }) (v := ?_) #[true, true, true, true, true, true, true, true, true] rfl rfl (by kernel_rfl) (fun _ _ _ h => h) (Or.inl ⟨by rfl, ?_⟩) hHeld ?_
      rotate_left
      · intro w' hSw; (try dsimp only at hSw); skip; go_simp; try with_reducible rfl
      simp only [Act.put, List.setIfInBounds_toArray, List.set_cons_zero, List.set_cons_succ]
      refine rgDone (by kernel_rfl) ?_ _
      go_wp2
      go_roundw
      case rel => exact ⟨k + 1, by omega, by go_num, HX, HY, HB⟩
      case measure => simp [intOf]; omega
    · obtain rfl : k = R.length := by omega
      go_wp2
      go_ret
      exact ⟨rfl, HB.out.1⟩
end Go.Proofs.Ytpgighhnhidpcaa.My
