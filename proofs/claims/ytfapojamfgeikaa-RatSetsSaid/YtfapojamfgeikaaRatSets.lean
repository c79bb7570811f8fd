/- The law of sets: what was set is got, no other register is changed, and set to what it was nothing is. -/
import Derived.Test.YtfapojamfgeikaaRatPlain
namespace Go.Proofs.Ytfapojamfgeikaa.My
open Go.RowKit

set_option maxHeartbeats 4000000 in
theorem sets_any (xs : List Int) (r p : Int) (w : World) (hl : xs.length = 16) : Calls Try.prog 5 #[.agg (ma .i64 xs), .int .i64 r, .int .i64 p] w fun e w' => e = .returned (.bool true) ∧ Below w.heap.size w w' := by
  have HB : Hid (Below w.heap.size w (w.alloc (.cells (ma .i64 xs) 23)) ∧ w.heap.size ≤ (w.alloc (.cells (ma .i64 xs) 23)).heap.size) := ⟨(Below.refl _ _).alloc (Nat.le_refl _) _, by simp⟩
  have HA : Hid ((w.alloc (.cells (ma .i64 xs) 23)).heap[w.heap.size]? = some (.cells (ma .i64 xs) 23 (0, 0))) := heap_alloc_new _ _
  have HL := Lib.hid hl
  have HL2 := Lib.hid (setM_len hl r p)
  clear hl
  go_enter Try.func5, Try.ntmps5
  go_wp2_with (first | (refine wl_loadW rfl _ rfl _ rfl _ (by first | exact HL.out | exact HL2.out) HA.out ?_) | (go_at_call 9; refine (set_any _ _ _ _ HL.out).mono ?_; rintro e wS ⟨rfl, hb⟩; (replace HA := keepA HA hb; replace HB := keepB HB hb; clear hb)) | (refine wl_new rfl _ _ rfl rfl _ rfl HL2.out _ (by rfl) ?_; intro wX hx hb; have HX := Lib.hid hx; replace HA := keepA HA hb; replace HB := keepB HB hb; clear hx hb))
  go_loopw [8] (fun i wr => ∃ k : Nat, k ≤ 16 ∧ i = .int .i64 k ∧ Hid (wr.heap[w.heap.size]? = some (.cells (ma .i64 xs) 23 (0, 0))) ∧ Hid (wr.heap[wS.heap.size]? = some (.cells (ma .i64 (setM xs r p)) 23 (0, 0))) ∧ Hid (Below w.heap.size w wr ∧ w.heap.size ≤ wr.heap.size)) (fun i _ => 16 - (intOf i).toNat)
  case atStart => exact ⟨0, by omega, rfl, HA, HX, HB⟩
  case round =>
    clear HA HX HB
    obtain ⟨k, hk, rfl, HA, HX, HB⟩ := hrel
    by_cases hlt : k < 16
    · by_cases h0 : 0 < k
      · have hu : usesB (setM xs r p) (getM (setM xs r p) (k : Int)) = true := uses_el h0 hlt
        by_cases e : (k : Int) = r
        · have e1 : ((k : Int) == r) = true := by simp [e]
          have hg : getM (setM xs r p) (k : Int) = p := get_set_same HL.out h0 hlt e
          rw [hg] at hu
          have HE := Lib.hid e
          clear e
          go_wp2_with (first | (first | (refine wl_loadW rfl _ rfl _ rfl _ HL.out HA.out ?_) | (refine wl_loadW rfl _ rfl _ rfl _ HL2.out HX.out ?_)) | (go_at_call 7; refine (get_any _ _ _ (by first | exact HL.out | exact HL2.out)).mono ?_; rintro e w1 ⟨rfl, hb⟩; (replace HA := keepA HA hb; replace HX := keepA HX hb; replace HB := keepB HB hb; clear hb)) | (go_at_call 16; refine (uses_any _ _ _ (by first | exact HL.out | exact HL2.out)).mono ?_; rintro e w1 ⟨rfl, hb⟩; (replace HA := keepA HA hb; replace HX := keepA HX hb; replace HB := keepB HB hb; clear hb)))
          go_roundw
          case rel => exact ⟨k + 1, by omega, by go_num, HA, HX, HB⟩
          case measure => simp [intOf]; omega
        · have e1 : ((k : Int) == r) = false := by simp [e]
          have hg : getM (setM xs r p) (k : Int) = getM xs (k : Int) := get_set_other HL.out h0 hlt e
          rw [hg] at hu
          clear e
          go_wp2_with (first | (first | (refine wl_loadW rfl _ rfl _ rfl _ HL.out HA.out ?_) | (refine wl_loadW rfl _ rfl _ rfl _ HL2.out HX.out ?_)) | (go_at_call 7; refine (get_any _ _ _ (by first | exact HL.out | exact HL2.out)).mono ?_; rintro e w1 ⟨rfl, hb⟩; (replace HA := keepA HA hb; replace HX := keepA HX hb; replace HB := keepB HB hb; clear hb)) | (go_at_call 16; refine (uses_any _ _ _ (by first | exact HL.out | exact HL2.out)).mono ?_; rintro e w1 ⟨rfl, hb⟩; (replace HA := keepA HA hb; replace HX := keepA HX hb; replace HB := keepB HB hb; clear hb)))
          go_roundw
          case rel => exact ⟨k + 1, by omega, by go_num, HA, HX, HB⟩
          case measure => simp [intOf]; omega
      · obtain rfl : k = 0 := by omega
        have hg : getM (setM xs r p) ((0 : Nat) : Int) = getM xs ((0 : Nat) : Int) := by rw [getM_zero, getM_zero]
        simp only [Int.natCast_zero] at hg
        by_cases e : (0 : Int) = r
        · subst e
          go_wp2_with (first | (first | (refine wl_loadW rfl _ rfl _ rfl _ HL.out HA.out ?_) | (refine wl_loadW rfl _ rfl _ rfl _ HL2.out HX.out ?_)) | (go_at_call 7; refine (get_any _ _ _ (by first | exact HL.out | exact HL2.out)).mono ?_; rintro e w1 ⟨rfl, hb⟩; (replace HA := keepA HA hb; replace HX := keepA HX hb; replace HB := keepB HB hb; clear hb)) | (go_at_call 16; refine (uses_any _ _ _ (by first | exact HL.out | exact HL2.out)).mono ?_; rintro e w1 ⟨rfl, hb⟩; (replace HA := keepA HA hb; replace HX := keepA HX hb; replace HB := keepB HB hb; clear hb)))
          go_roundw
          case rel => exact ⟨1, by omega, by go_num, HA, HX, HB⟩
          case measure => simp [intOf]
        · have e1 : ((0 : Int) == r) = false := by simp [e]
          clear e
          go_wp2_with (first | (first | (refine wl_loadW rfl _ rfl _ rfl _ HL.out HA.out ?_) | (refine wl_loadW rfl _ rfl _ rfl _ HL2.out HX.out ?_)) | (go_at_call 7; refine (get_any _ _ _ (by first | exact HL.out | exact HL2.out)).mono ?_; rintro e w1 ⟨rfl, hb⟩; (replace HA := keepA HA hb; replace HX := keepA HX hb; replace HB := keepB HB hb; clear hb)) | (go_at_call 16; refine (uses_any _ _ _ (by first | exact HL.out | exact HL2.out)).mono ?_; rintro e w1 ⟨rfl, hb⟩; (replace HA := keepA HA hb; replace HX := keepA HX hb; replace HB := keepB HB hb; clear hb)))
          go_roundw
          case rel => exact ⟨1, by omega, by go_num, HA, HX, HB⟩
          case measure => simp [intOf]
    · have hu := Try.underlying23
      have hi : (Try.prog.info? 23).map (·.size) = some xs.length := by rw [HL.out]; exact infoMap
      have hi2 : (Try.prog.info? 23).map (·.size) = some (setM xs r p).length := by rw [HL2.out]; exact infoMap
      have q1 := equalMap (setM (setM xs r p) r (getM xs r)) xs (setM_len HL2.out _ _) HL.out
      have q2 : (setM (setM xs r p) r (getM xs r) == xs) = true := by rw [set_back HL.out]; simp
      have HR1 : Hid (wr.drew.rangeAt w.heap.size 0 (xs.map (Value.int .i64))) := ma_range HA.out
      have HR2 : Hid (wr.drew.rangeAt wS.heap.size 0 ((setM xs r p).map (Value.int .i64))) := ma_range HX.out
      replace HB : Hid (Below w.heap.size w wr.drew ∧ w.heap.size ≤ wr.drew.heap.size) := ⟨below_dn HB.out.1 1, HB.out.2⟩
      go_wp2
      refine rgStart (S := (fun w' => w'.rangeAt w.heap.size 0 (xs.map (Value.int .i64)) ∧ w'.rangeAt wS.heap.size 0 ((setM xs r p).map (Value.int .i64)))) (n := 12) #[false, false, false, false, false, false, false, false, false, false, false, false] (by kernel_rfl) rfl rfl ⟨HR1.out, HR2.out⟩ (fun hHeld => ?_)
      refine rgTake (i := 0) (N := some 44) (oi := { dst := some 44, op := Op.load 23 (Operand.tmp 7), type := 23, pos := "law.go:38", after := #[], guard := none }) (v := _) #[true, false, false, false, false, false, false, false, false, false, false, false] rfl rfl (by kernel_rfl) (fun _ _ _ h => h) (by first | exact (yieldsMa (by rfl) _ _ rfl _ rfl .i64 xs (fun _ h => h.1) hu rfl hi) | exact (yieldsMa (by rfl) _ _ rfl _ rfl .i64 (setM xs r p) (fun _ h => h.2) hu rfl hi2)) hHeld ?_
      simp only [Act.put, List.setIfInBounds_toArray, List.set_cons_zero, List.set_cons_succ]
      refine rgTake (i := 1) (N := some 45) (oi := { dst := some 45, op := Op.move (Operand.tmp 1), type := 3, pos := "law.go:38", after := #[], guard := none }) (v := ?_) #[true, true, false, false, false, false, false, false, false, false, false, false] rfl rfl (by kernel_rfl) (fun _ _ _ h => h) (Or.inl ⟨by rfl, ?_⟩) hHeld ?_
      rotate_left
      · intro w' hSw; (try dsimp only at hSw); skip; go_simp; try with_reducible rfl
      simp only [Act.put, List.setIfInBounds_toArray, List.set_cons_zero, List.set_cons_succ]
      refine rgTake (i := 2) (N := some 46) (oi := { dst := some 46, op := Op.load 23 (Operand.tmp 3), type := 23, pos := "law.go:38", after := #[], guard := none }) (v := _) #[true, true, true, false, false, false, false, false, false, false, false, false] rfl rfl (by kernel_rfl) (fun _ _ _ h => h) (by first | exact (yieldsMa (by rfl) _ _ rfl _ rfl .i64 xs (fun _ h => h.1) hu rfl hi) | exact (yieldsMa (by rfl) _ _ rfl _ rfl .i64 (setM xs r p) (fun _ h => h.2) hu rfl hi2)) hHeld ?_
      simp only [Act.put, List.setIfInBounds_toArray, List.set_cons_zero, List.set_cons_succ]
      refine rgTake (i := 3) (N := some 47) (oi := { dst := some 47, op := Op.move (Operand.tmp 1), type := 3, pos := "law.go:38", after := #[], guard := none }) (v := ?_) #[true, true, true, true, false, false, false, false, false, false, false, false] rfl rfl (by kernel_rfl) (fun _ _ _ h => h) (Or.inl ⟨by rfl, ?_⟩) hHeld ?_
      rotate_left
      · intro w' hSw; (try dsimp only at hSw); skip; go_simp; try with_reducible rfl
      simp only [Act.put, List.setIfInBounds_toArray, List.set_cons_zero, List.set_cons_succ]
      refine rgTake (i := 6) (N := some 50) (oi := { dst := some 50, op := Op.load 23 (Operand.tmp 3), type := 23, pos := "law.go:38", after := #[], guard := none }) (v := _) #[true, true, true, true, false, false, true, false, false, false, false, false] rfl rfl (by kernel_rfl) (fun _ _ _ h => h) (by first | exact (yieldsMa (by rfl) _ _ rfl _ rfl .i64 xs (fun _ h => h.1) hu rfl hi) | exact (yieldsMa (by rfl) _ _ rfl _ rfl .i64 (setM xs r p) (fun _ h => h.2) hu rfl hi2)) hHeld ?_
      simp only [Act.put, List.setIfInBounds_toArray, List.set_cons_zero, List.set_cons_succ]
      refine rgCall (i := 4) (N := some 48) (oi := { dst := some 48, op := Op.call { callee := Callee.value (Operand.func 7), args := #[Operand.tmp 46, Operand.tmp 47], argTypes := #[23, 3] }, type := 3, pos := "law.go:38", after := #[{ on := 2, ground := Ground.data }, { on := 3, ground := Ground.data }], guard := none }) #[true, true, true, true, true, false, true, false, false, false, false, false] rfl rfl (by kernel_rfl) (fun K hK => ?_)
      go_simp
      (go_at_call 7; refine (get_any _ _ _ HL.out).mono ?_; rintro e w1 ⟨rfl, hb⟩; replace HB := keepB HB hb)
      refine hK.out _ _ ⟨keepR hHeld.out.1 hb, keepR hHeld.out.2 hb⟩ (fun hHeld => ?_)
      (try simp only [Act.put, List.setIfInBounds_toArray, List.set_cons_zero, List.set_cons_succ])
      clear hK K
      refine rgCall (i := 5) (N := some 49) (oi := { dst := some 49, op := Op.call { callee := Callee.value (Operand.func 9), args := #[Operand.tmp 44, Operand.tmp 45, Operand.tmp 48], argTypes := #[23, 3, 3] }, type := 23, pos := "law.go:38", after := #[{ on := 0, ground := Ground.data }, { on := 1, ground := Ground.data }, { on := 4, ground := Ground.data }, { on := 4, ground := Ground.chain }], guard := none }) #[true, true, true, true, true, true, true, false, false, false, false, false] rfl rfl (by kernel_rfl) (fun K hK => ?_)
      go_simp
      (go_at_call 9; refine (set_any _ _ _ _ HL2.out).mono ?_; rintro e w1 ⟨rfl, hb⟩; replace HB := keepB HB hb)
      refine hK.out _ _ ⟨keepR hHeld.out.1 hb, keepR hHeld.out.2 hb⟩ (fun hHeld => ?_)
      (try simp only [Act.put, List.setIfInBounds_toArray, List.set_cons_zero, List.set_cons_succ])
      clear hK K
      refine rgTake (i := 7) (N := some 51) (oi := { dst := some 51, op := Op.binOp BinOp.eql 23 (Operand.tmp 49) (Operand.tmp 50) 23, type := 4, pos := "law.go:38", after := #[{ on := 5, ground := Ground.data }, { on := 6, ground := Ground.data }], guard := none }) (v := ?_) #[true, true, true, true, true, true, true, true, false, false, false, false] rfl rfl (by kernel_rfl) (fun _ _ _ h => h) (Or.inl ⟨by rfl, ?_⟩) hHeld ?_
      rotate_left
      · intro w' hSw; (try dsimp only at hSw); skip; go_simp; try with_reducible rfl
      simp only [Act.put, List.setIfInBounds_toArray, List.set_cons_zero, List.set_cons_succ]
      refine rgTake (i := 8) (N := some 52) (oi := { dst := some 52, op := Op.move (Operand.tmp 51), type := 4, pos := "law.go:38", after := #[{ on := 7, ground := Ground.data }, { on := 5, ground := Ground.chain }], guard := none }) (v := ?_) #[true, true, true, true, true, true, true, true, true, false, false, false] rfl rfl (by kernel_rfl) (fun _ _ _ h => h) (Or.inl ⟨by rfl, ?_⟩) hHeld ?_
      rotate_left
      · intro w' hSw; (try dsimp only at hSw); skip; go_simp; try with_reducible rfl
      simp only [Act.put, List.setIfInBounds_toArray, List.set_cons_zero, List.set_cons_succ]
      refine rgCall (i := 9) (N := some 53) (oi := { dst := some 53, op := Op.call { callee := Callee.value (Operand.func 13), args := #[], argTypes := #[] }, type := 4, pos := "law.go:38", after := #[{ on := 8, ground := Ground.chain }, { on := 8, ground := Ground.guard }], guard := some (8, true) }) #[true, true, true, true, true, true, true, true, true, true, false, false] rfl rfl (by kernel_rfl) (fun K hK => ?_)
      go_simp
      (go_at_call 13; refine (awake_any _).mono ?_; rintro e w1 ⟨rfl, hb⟩; replace HB := keepB HB hb)
      refine hK.out _ _ ⟨keepR hHeld.out.1 hb, keepR hHeld.out.2 hb⟩ (fun hHeld => ?_)
      (try simp only [Act.put, List.setIfInBounds_toArray, List.set_cons_zero, List.set_cons_succ])
      clear hK K
      refine rgTake (i := 10) (N := some 54) (oi := { dst := some 54, op := Op.pick (Operand.tmp 52) (Operand.tmp 53) (Operand.const (Value.bool false)), type := 4, pos := "law.go:38", after := #[{ on := 8, ground := Ground.data }, { on := 9, ground := Ground.data }], guard := none }) (v := ?_) #[true, true, true, true, true, true, true, true, true, true, true, false] rfl rfl (by kernel_rfl) (fun _ _ _ h => h) (Or.inl ⟨by rfl, ?_⟩) hHeld ?_
      rotate_left
      · intro w' hSw; (try dsimp only at hSw); skip; go_simp; try with_reducible rfl
      simp only [Act.put, List.setIfInBounds_toArray, List.set_cons_zero, List.set_cons_succ]
      refine rgTake (i := 11) (N := some 6) (oi := { dst := some 6, op := Op.assign (Operand.tmp 54), type := 4, pos := "law.go:38", after := #[{ on := 10, ground := Ground.data }, { on := 9, ground := Ground.chain }, { on := 0, ground := Ground.phase }, { on := 1, ground := Ground.phase }, { on := 2, ground := Ground.phase }, { on := 3, ground := Ground.phase }, { on := 4, ground := Ground.phase }, { on := 5, ground := Ground.phase }, { on := 6, ground := Ground.phase }, { on := 7, ground := Ground.phase }, { on := 8, ground := Ground.phase }, { on := 9, ground := Ground.phase }, { on := 10, ground := Ground.phase }], guard := none }) (v := ?_) #[true, true, true, true, true, true, true, true, true, true, true, true] rfl rfl (by kernel_rfl) (fun _ _ _ h => h) (Or.inl ⟨by rfl, ?_⟩) hHeld ?_
      rotate_left
      · intro w' hSw; (try dsimp only at hSw); skip; go_simp; try with_reducible rfl
      simp only [Act.put, List.setIfInBounds_toArray, List.set_cons_zero, List.set_cons_succ]
      refine rgDone (by kernel_rfl) ?_ _
      go_wp2
      go_ret
      exact ⟨rfl, HB.out.1⟩

end Go.Proofs.Ytfapojamfgeikaa.My
