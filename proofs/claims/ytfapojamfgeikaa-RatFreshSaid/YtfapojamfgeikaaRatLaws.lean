/- The laws of the register map: what each law's function answers. -/
import Derived.Test.YtfapojamfgeikaaRatAsks
namespace Go.Proofs.Ytfapojamfgeikaa.My
open Go.RowKit

theorem wl_new {ops : Array Oper} {Q : Exit → Act → World → Prop} {rest : List Oper} {o : Oper} {a : Act} {w1 : World} (hgd : o.guard = none) (x y : Operand) (ho : o.op = .store 23 x y) (hx : a.eval x = .pointer (some ⟨w1.heap.size, 0, none⟩))
    (xs : List Int) (hy : a.eval y = .agg (ma .i64 xs)) (hl : xs.length = 16) (old : Array Value) (hold : old.size = 16)
    (h : ∀ w2 : World, w2.heap[w1.heap.size]? = some (.cells (ma .i64 xs) 23 (0, 0)) → Below w1.heap.size w1 w2 → wpList Try.prog ops Q rest (a.put o.dst undef) w2) :
    wpList Try.prog ops Q (o :: rest) a (w1.alloc (.cells old 23)) :=
  wl_store hgd x y ho w1.heap.size hx xs hy hl old (heap_alloc_new _ _) hold (h _ (setRow_heap _ _ _ _ _ _ (heap_alloc_new _ _)) (below_setRow ((Below.refl _ _).alloc (Nat.le_refl _) _) (Nat.le_refl _) _))

theorem wl_loadW {ops : Array Oper} {Q : Exit → Act → World → Prop} {rest : List Oper} {o : Oper} {a : Act} {w : World} (hw : Region.wanted o (yielded ops a.tmps) = true) (x : Operand) (ho : o.op = .load 23 x) (g : Nat) (hx : a.eval x = .pointer (some ⟨g, 0, none⟩))
    (xs : List Int) (hl : xs.length = 16) (hg : w.heap[g]? = some (.cells (ma .i64 xs) 23 (0, 0))) (h : wpList Try.prog ops Q rest (a.put o.dst (.agg (ma .i64 xs))) w) : wpList Try.prog ops Q (o :: rest) a w :=
  wpList_step fun K hK => by
    rw [if_pos hw]
    exact wp_load_row 23 x ho g hx 23 _ (0, 0) _ hg Try.underlying23 rfl (by rw [ma_size, hl]; exact infoMap) (hK _ _ h)

theorem newL_len : (newL 16).length = 16 := by simp [newL]
set_option maxHeartbeats 1000000 in
theorem awake_any (w : World) : Calls Try.prog 13 #[] w fun e w' => e = .returned (.bool true) ∧ Below w.heap.size w w' := by
  have HB : Hid (Below w.heap.size w w ∧ w.heap.size ≤ w.heap.size) := ⟨Below.refl _ _, Nat.le_refl _⟩
  have HL := Lib.hid newL_len
  have HL2 := Lib.hid (show (setM (newL 16) 3 20).length = 16 by decide)
  have g5 : getM (newL 16) 5 = 5 := by decide
  have g0 : getM (newL 16) 0 = -1 := by decide
  have r16 : rightB (newL 16) 16 = true := by decide
  have r15 : rightB (newL 16) 15 = false := by decide
  have u15 : usesB (newL 16) 15 = true := by decide
  have g3 : getM (setM (newL 16) 3 20) 3 = 20 := by decide
  go_enter Try.func13, Try.ntmps13
  go_wp2_with (first | (go_at_call 11; refine (new_any _).mono ?_; rintro e w1 ⟨rfl, hb⟩; replace HB := keepB HB hb; clear hb) | (refine wl_new rfl _ _ rfl rfl _ rfl (by first | exact HL.out | exact HL2.out) _ (by rfl) ?_; intro w2 ha hb; have HA := Lib.hid ha; replace HB := keepB HB hb; clear ha hb) | (refine wl_loadW rfl _ rfl _ rfl _ (by first | exact HL.out | exact HL2.out) HA.out ?_) | (go_at_call 7; refine (get_any _ _ _ (by first | exact HL.out | exact HL2.out)).mono ?_; rintro e w1 ⟨rfl, hb⟩; (replace HA := keepA HA hb; replace HB := keepB HB hb; clear hb)) | (go_at_call 9; refine (set_any _ _ _ _ (by first | exact HL.out | exact HL2.out)).mono ?_; rintro e w1 ⟨rfl, hb⟩; (replace HA := keepA HA hb; replace HB := keepB HB hb; clear hb)) | (go_at_call 14; refine (right_any _ _ _ (by first | exact HL.out | exact HL2.out)).mono ?_; rintro e w1 ⟨rfl, hb⟩; (replace HA := keepA HA hb; replace HB := keepB HB hb; clear hb)) | (go_at_call 16; refine (uses_any _ _ _ (by first | exact HL.out | exact HL2.out)).mono ?_; rintro e w1 ⟨rfl, hb⟩; (replace HA := keepA HA hb; replace HB := keepB HB hb; clear hb)))
  go_ret
  exact ⟨rfl, HB.out.1⟩

theorem equalMap (xs ys : List Int) (hx : xs.length = 16) (hy : ys.length = 16) (w : World) : (Op.equalIn 10000 23 (.agg (ma .i64 xs)) (.agg (ma .i64 ys))).run Try.prog w = .ok (xs == ys) w :=
  equalIn_ma w 9998 23 3 16 .i64 Try.underlying23 Try.underlying3 (fun _ => by kernel_rfl) xs ys hx hy

theorem setM_len {xs : List Int} (h : xs.length = 16) (r p : Int) : (setM xs r p).length = 16 := by
  unfold setM; split
  · rw [List.length_set]; exact h
  · exact h

set_option maxHeartbeats 4000000 in
theorem does_any (xs : List Int) (r p : Int) (w : World) (hl : xs.length = 16) : Calls Try.prog 3 #[.agg (ma .i64 xs), .int .i64 r, .int .i64 p] w fun e w' => e = .returned (.bool true) ∧ Below w.heap.size w w' := by
  have HB : Hid (Below w.heap.size w (w.alloc (.cells (ma .i64 xs) 23)).drew ∧ w.heap.size ≤ (w.alloc (.cells (ma .i64 xs) 23)).drew.heap.size) := ⟨below_dn ((Below.refl _ _).alloc (Nat.le_refl _) _) 1, by simp⟩
  have hu := Try.underlying23
  have hi : (Try.prog.info? 23).map (·.size) = some xs.length := by rw [hl]; exact infoMap
  have q1 := equalMap (setM xs r p) (setM xs r p) (setM_len hl _ _) (setM_len hl _ _)
  have q2 := equalMap (newL 16) (newL 16) newL_len newL_len
  have HR : Hid ((w.alloc (.cells (ma .i64 xs) 23)).drew.rangeAt w.heap.size 0 (xs.map (Value.int .i64))) := ma_range (heap_alloc_new w _)
  have HL := Lib.hid hl
  clear hl
  go_enter Try.func3, Try.ntmps3
  go_wp2
  refine rgStart (S := (fun w' => w'.rangeAt w.heap.size 0 (xs.map (Value.int .i64)))) (n := 27) #[false, false, false, false, false, false, false, false, false, false, false, false, false, false, false, false, false, false, false, false, false, false, false, false, false, false, false] (by kernel_rfl) rfl rfl HR.out (fun hHeld => ?_)
  refine rgTake (i := 0) (N := some 7) (oi := { dst := some 7, op := Op.load 23 (Operand.tmp 3), type := 23, pos := "law.go:18", after := #[], guard := none }) (v := _) #[true, false, false, false, false, false, false, false, false, false, false, false, false, false, false, false, false, false, false, false, false, false, false, false, false, false, false] rfl rfl (by kernel_rfl) (fun _ _ _ h => h) (yieldsMa (by rfl) _ _ rfl _ rfl .i64 xs (fun _ h => h) hu rfl hi) hHeld ?_
  simp only [Act.put, List.setIfInBounds_toArray, List.set_cons_zero, List.set_cons_succ]
  refine rgTake (i := 1) (N := some 8) (oi := { dst := some 8, op := Op.move (Operand.tmp 1), type := 3, pos := "law.go:18", after := #[], guard := none }) (v := ?_) #[true, true, false, false, false, false, false, false, false, false, false, false, false, false, false, false, false, false, false, false, false, false, false, false, false, false, false] rfl rfl (by kernel_rfl) (fun _ _ _ h => h) (Or.inl ⟨by rfl, ?_⟩) hHeld ?_
  rotate_left
  · intro w' hSw; (try dsimp only at hSw); skip; go_simp; try with_reducible rfl
  simp only [Act.put, List.setIfInBounds_toArray, List.set_cons_zero, List.set_cons_succ]
  refine rgTake (i := 3) (N := some 10) (oi := { dst := some 10, op := Op.load 23 (Operand.tmp 3), type := 23, pos := "law.go:18", after := #[], guard := none }) (v := _) #[true, true, false, true, false, false, false, false, false, false, false, false, false, false, false, false, false, false, false, false, false, false, false, false, false, false, false] rfl rfl (by kernel_rfl) (fun _ _ _ h => h) (yieldsMa (by rfl) _ _ rfl _ rfl .i64 xs (fun _ h => h) hu rfl hi) hHeld ?_
  simp only [Act.put, List.setIfInBounds_toArray, List.set_cons_zero, List.set_cons_succ]
  refine rgTake (i := 4) (N := some 11) (oi := { dst := some 11, op := Op.move (Operand.tmp 1), type := 3, pos := "law.go:18", after := #[], guard := none }) (v := ?_) #[true, true, false, true, true, false, false, false, false, false, false, false, false, false, false, false, false, false, false, false, false, false, false, false, false, false, false] rfl rfl (by kernel_rfl) (fun _ _ _ h => h) (Or.inl ⟨by rfl, ?_⟩) hHeld ?_
  rotate_left
  · intro w' hSw; (try dsimp only at hSw); skip; go_simp; try with_reducible rfl
  simp only [Act.put, List.setIfInBounds_toArray, List.set_cons_zero, List.set_cons_succ]
  refine rgCall (i := 2) (N := some 9) (oi := { dst := some 9, op := Op.call { callee := Callee.value (Operand.func 7), args := #[Operand.tmp 7, Operand.tmp 8], argTypes := #[23, 3] }, type := 3, pos := "law.go:18", after := #[{ on := 0, ground := Ground.data }, { on := 1, ground := Ground.data }], guard := none }) #[true, true, true, true, true, false, false, false, false, false, false, false, false, false, false, false, false, false, false, false, false, false, false, false, false, false, false] rfl rfl (by kernel_rfl) (fun K hK => ?_)
  go_simp
  (go_at_call 7; refine (get_any _ _ _ HL.out).mono ?_; rintro e w1 ⟨rfl, hb⟩; replace HB := keepB HB hb)
  refine hK.out _ _ (keepR hHeld hb) (fun hHeld => ?_)
  (try simp only [Act.put, List.setIfInBounds_toArray, List.set_cons_zero, List.set_cons_succ])
  clear hK K
  refine rgCall (i := 5) (N := some 12) (oi := { dst := some 12, op := Op.call { callee := Callee.value (Operand.func 8), args := #[Operand.tmp 10, Operand.tmp 11], argTypes := #[23, 3] }, type := 3, pos := "law.go:18", after := #[{ on := 3, ground := Ground.data }, { on := 4, ground := Ground.data }, { on := 2, ground := Ground.chain }], guard := none }) #[true, true, true, true, true, true, false, false, false, false, false, false, false, false, false, false, false, false, false, false, false, false, false, false, false, false, false] rfl rfl (by kernel_rfl) (fun K hK => ?_)
  go_simp
  (go_at_call 8; refine (rget_any _ _ _ HL.out).mono ?_; rintro e w1 ⟨rfl, hb⟩; replace HB := keepB HB hb)
  refine hK.out _ _ (keepR hHeld hb) (fun hHeld => ?_)
  (try simp only [Act.put, List.setIfInBounds_toArray, List.set_cons_zero, List.set_cons_succ])
  clear hK K
  refine rgTake (i := 6) (N := some 13) (oi := { dst := some 13, op := Op.binOp BinOp.eql 3 (Operand.tmp 9) (Operand.tmp 12) 3, type := 4, pos := "law.go:18", after := #[{ on := 2, ground := Ground.data }, { on := 5, ground := Ground.data }], guard := none }) (v := ?_) #[true, true, true, true, true, true, true, false, false, false, false, false, false, false, false, false, false, false, false, false, false, false, false, false, false, false, false] rfl rfl (by kernel_rfl) (fun _ _ _ h => h) (Or.inl ⟨by rfl, ?_⟩) hHeld ?_
  rotate_left
  · intro w' hSw; (try dsimp only at hSw); skip; go_simp; try with_reducible rfl
  simp only [Act.put, List.setIfInBounds_toArray, List.set_cons_zero, List.set_cons_succ]
  refine rgTake (i := 7) (N := some 14) (oi := { dst := some 14, op := Op.move (Operand.tmp 13), type := 4, pos := "law.go:18", after := #[{ on := 6, ground := Ground.data }, { on := 5, ground := Ground.chain }], guard := none }) (v := ?_) #[true, true, true, true, true, true, true, true, false, false, false, false, false, false, false, false, false, false, false, false, false, false, false, false, false, false, false] rfl rfl (by kernel_rfl) (fun _ _ _ h => h) (Or.inl ⟨by rfl, ?_⟩) hHeld ?_
  rotate_left
  · intro w' hSw; (try dsimp only at hSw); skip; go_simp; try with_reducible rfl
  simp only [Act.put, List.setIfInBounds_toArray, List.set_cons_zero, List.set_cons_succ]
  refine rgTake (i := 8) (N := some 15) (oi := { dst := some 15, op := Op.load 23 (Operand.tmp 3), type := 23, pos := "law.go:18", after := #[{ on := 7, ground := Ground.guard }], guard := some (7, true) }) (v := _) #[true, true, true, true, true, true, true, true, true, false, false, false, false, false, false, false, false, false, false, false, false, false, false, false, false, false, false] rfl rfl (by kernel_rfl) (fun _ _ _ h => h) (yieldsMa (by rfl) _ _ rfl _ rfl .i64 xs (fun _ h => h) hu rfl hi) hHeld ?_
  simp only [Act.put, List.setIfInBounds_toArray, List.set_cons_zero, List.set_cons_succ]
  refine rgTake (i := 9) (N := some 16) (oi := { dst := some 16, op := Op.move (Operand.tmp 1), type := 3, pos := "law.go:18", after := #[{ on := 7, ground := Ground.guard }], guard := some (7, true) }) (v := ?_) #[true, true, true, true, true, true, true, true, true, true, false, false, false, false, false, false, false, false, false, false, false, false, false, false, false, false, false] rfl rfl (by kernel_rfl) (fun _ _ _ h => h) (Or.inl ⟨by rfl, ?_⟩) hHeld ?_
  rotate_left
  · intro w' hSw; (try dsimp only at hSw); skip; go_simp; try with_reducible rfl
  simp only [Act.put, List.setIfInBounds_toArray, List.set_cons_zero, List.set_cons_succ]
  refine rgTake (i := 10) (N := some 17) (oi := { dst := some 17, op := Op.move (Operand.tmp 2), type := 3, pos := "law.go:18", after := #[{ on := 7, ground := Ground.guard }], guard := some (7, true) }) (v := ?_) #[true, true, true, true, true, true, true, true, true, true, true, false, false, false, false, false, false, false, false, false, false, false, false, false, false, false, false] rfl rfl (by kernel_rfl) (fun _ _ _ h => h) (Or.inl ⟨by rfl, ?_⟩) hHeld ?_
  rotate_left
  · intro w' hSw; (try dsimp only at hSw); skip; go_simp; try with_reducible rfl
  simp only [Act.put, List.setIfInBounds_toArray, List.set_cons_zero, List.set_cons_succ]
  refine rgTake (i := 12) (N := some 19) (oi := { dst := some 19, op := Op.load 23 (Operand.tmp 3), type := 23, pos := "law.go:18", after := #[{ on := 7, ground := Ground.guard }], guard := some (7, true) }) (v := _) #[true, true, true, true, true, true, true, true, true, true, true, false, true, false, false, false, false, false, false, false, false, false, false, false, false, false, false] rfl rfl (by kernel_rfl) (fun _ _ _ h => h) (yieldsMa (by rfl) _ _ rfl _ rfl .i64 xs (fun _ h => h) hu rfl hi) hHeld ?_
  simp only [Act.put, List.setIfInBounds_toArray, List.set_cons_zero, List.set_cons_succ]
  refine rgTake (i := 13) (N := some 20) (oi := { dst := some 20, op := Op.move (Operand.tmp 1), type := 3, pos := "law.go:18", after := #[{ on := 7, ground := Ground.guard }], guard := some (7, true) }) (v := ?_) #[true, true, true, true, true, true, true, true, true, true, true, false, true, true, false, false, false, false, false, false, false, false, false, false, false, false, false] rfl rfl (by kernel_rfl) (fun _ _ _ h => h) (Or.inl ⟨by rfl, ?_⟩) hHeld ?_
  rotate_left
  · intro w' hSw; (try dsimp only at hSw); skip; go_simp; try with_reducible rfl
  simp only [Act.put, List.setIfInBounds_toArray, List.set_cons_zero, List.set_cons_succ]
  refine rgTake (i := 14) (N := some 21) (oi := { dst := some 21, op := Op.move (Operand.tmp 2), type := 3, pos := "law.go:18", after := #[{ on := 7, ground := Ground.guard }], guard := some (7, true) }) (v := ?_) #[true, true, true, true, true, true, true, true, true, true, true, false, true, true, true, false, false, false, false, false, false, false, false, false, false, false, false] rfl rfl (by kernel_rfl) (fun _ _ _ h => h) (Or.inl ⟨by rfl, ?_⟩) hHeld ?_
  rotate_left
  · intro w' hSw; (try dsimp only at hSw); skip; go_simp; try with_reducible rfl
  simp only [Act.put, List.setIfInBounds_toArray, List.set_cons_zero, List.set_cons_succ]
  refine rgCall (i := 11) (N := some 18) (oi := { dst := some 18, op := Op.call { callee := Callee.value (Operand.func 9), args := #[Operand.tmp 15, Operand.tmp 16, Operand.tmp 17], argTypes := #[23, 3, 3] }, type := 23, pos := "law.go:18", after := #[{ on := 8, ground := Ground.data }, { on := 9, ground := Ground.data }, { on := 10, ground := Ground.data }, { on := 7, ground := Ground.chain }, { on := 7, ground := Ground.guard }], guard := some (7, true) }) #[true, true, true, true, true, true, true, true, true, true, true, true, true, true, true, false, false, false, false, false, false, false, false, false, false, false, false] rfl rfl (by kernel_rfl) (fun K hK => ?_)
  go_simp
  (go_at_call 9; refine (set_any _ _ _ _ HL.out).mono ?_; rintro e w1 ⟨rfl, hb⟩; replace HB := keepB HB hb)
  refine hK.out _ _ (keepR hHeld hb) (fun hHeld => ?_)
  (try simp only [Act.put, List.setIfInBounds_toArray, List.set_cons_zero, List.set_cons_succ])
  clear hK K
  refine rgCall (i := 15) (N := some 22) (oi := { dst := some 22, op := Op.call { callee := Callee.value (Operand.func 10), args := #[Operand.tmp 19, Operand.tmp 20, Operand.tmp 21], argTypes := #[23, 3, 3] }, type := 23, pos := "law.go:18", after := #[{ on := 12, ground := Ground.data }, { on := 13, ground := Ground.data }, { on := 14, ground := Ground.data }, { on := 11, ground := Ground.chain }, { on := 7, ground := Ground.guard }], guard := some (7, true) }) #[true, true, true, true, true, true, true, true, true, true, true, true, true, true, true, true, false, false, false, false, false, false, false, false, false, false, false] rfl rfl (by kernel_rfl) (fun K hK => ?_)
  go_simp
  (go_at_call 10; refine (rset_any _ _ _ _ HL.out).mono ?_; rintro e w1 ⟨rfl, hb⟩; replace HB := keepB HB hb)
  refine hK.out _ _ (keepR hHeld hb) (fun hHeld => ?_)
  (try simp only [Act.put, List.setIfInBounds_toArray, List.set_cons_zero, List.set_cons_succ])
  clear hK K
  refine rgTake (i := 16) (N := some 23) (oi := { dst := some 23, op := Op.binOp BinOp.eql 23 (Operand.tmp 18) (Operand.tmp 22) 23, type := 4, pos := "law.go:18", after := #[{ on := 11, ground := Ground.data }, { on := 15, ground := Ground.data }, { on := 7, ground := Ground.guard }], guard := some (7, true) }) (v := ?_) #[true, true, true, true, true, true, true, true, true, true, true, true, true, true, true, true, true, false, false, false, false, false, false, false, false, false, false] rfl rfl (by kernel_rfl) (fun _ _ _ h => h) (Or.inl ⟨by rfl, ?_⟩) hHeld ?_
  rotate_left
  · intro w' hSw; (try dsimp only at hSw); skip; go_simp; try with_reducible rfl
  simp only [Act.put, List.setIfInBounds_toArray, List.set_cons_zero, List.set_cons_succ]
  refine rgTake (i := 17) (N := some 24) (oi := { dst := some 24, op := Op.pick (Operand.tmp 14) (Operand.tmp 23) (Operand.const (Value.bool false)), type := 4, pos := "law.go:18", after := #[{ on := 7, ground := Ground.data }, { on := 16, ground := Ground.data }], guard := none }) (v := ?_) #[true, true, true, true, true, true, true, true, true, true, true, true, true, true, true, true, true, true, false, false, false, false, false, false, false, false, false] rfl rfl (by kernel_rfl) (fun _ _ _ h => h) (Or.inl ⟨by rfl, ?_⟩) hHeld ?_
  rotate_left
  · intro w' hSw; (try dsimp only at hSw); skip; go_simp; try with_reducible rfl
  simp only [Act.put, List.setIfInBounds_toArray, List.set_cons_zero, List.set_cons_succ]
  refine rgTake (i := 18) (N := some 25) (oi := { dst := some 25, op := Op.move (Operand.tmp 24), type := 4, pos := "law.go:18", after := #[{ on := 17, ground := Ground.data }, { on := 15, ground := Ground.chain }], guard := none }) (v := ?_) #[true, true, true, true, true, true, true, true, true, true, true, true, true, true, true, true, true, true, true, false, false, false, false, false, false, false, false] rfl rfl (by kernel_rfl) (fun _ _ _ h => h) (Or.inl ⟨by rfl, ?_⟩) hHeld ?_
  rotate_left
  · intro w' hSw; (try dsimp only at hSw); skip; go_simp; try with_reducible rfl
  simp only [Act.put, List.setIfInBounds_toArray, List.set_cons_zero, List.set_cons_succ]
  refine rgCall (i := 19) (N := some 26) (oi := { dst := some 26, op := Op.call { callee := Callee.value (Operand.func 11), args := #[], argTypes := #[] }, type := 23, pos := "law.go:18", after := #[{ on := 18, ground := Ground.chain }, { on := 18, ground := Ground.guard }], guard := some (18, true) }) #[true, true, true, true, true, true, true, true, true, true, true, true, true, true, true, true, true, true, true, true, false, false, false, false, false, false, false] rfl rfl (by kernel_rfl) (fun K hK => ?_)
  go_simp
  (go_at_call 11; refine (new_any _).mono ?_; rintro e w1 ⟨rfl, hb⟩; replace HB := keepB HB hb)
  refine hK.out _ _ (keepR hHeld hb) (fun hHeld => ?_)
  (try simp only [Act.put, List.setIfInBounds_toArray, List.set_cons_zero, List.set_cons_succ])
  clear hK K
  refine rgCall (i := 20) (N := some 27) (oi := { dst := some 27, op := Op.call { callee := Callee.value (Operand.func 12), args := #[], argTypes := #[] }, type := 23, pos := "law.go:18", after := #[{ on := 19, ground := Ground.chain }, { on := 18, ground := Ground.guard }], guard := some (18, true) }) #[true, true, true, true, true, true, true, true, true, true, true, true, true, true, true, true, true, true, true, true, true, false, false, false, false, false, false] rfl rfl (by kernel_rfl) (fun K hK => ?_)
  go_simp
  (go_at_call 12; refine (rnew_any _).mono ?_; rintro e w1 ⟨rfl, hb⟩; replace HB := keepB HB hb)
  refine hK.out _ _ (keepR hHeld hb) (fun hHeld => ?_)
  (try simp only [Act.put, List.setIfInBounds_toArray, List.set_cons_zero, List.set_cons_succ])
  clear hK K
  refine rgTake (i := 21) (N := some 28) (oi := { dst := some 28, op := Op.binOp BinOp.eql 23 (Operand.tmp 26) (Operand.tmp 27) 23, type := 4, pos := "law.go:18", after := #[{ on := 19, ground := Ground.data }, { on := 20, ground := Ground.data }, { on := 18, ground := Ground.guard }], guard := some (18, true) }) (v := ?_) #[true, true, true, true, true, true, true, true, true, true, true, true, true, true, true, true, true, true, true, true, true, true, false, false, false, false, false] rfl rfl (by kernel_rfl) (fun _ _ _ h => h) (Or.inl ⟨by rfl, ?_⟩) hHeld ?_
  rotate_left
  · intro w' hSw; (try dsimp only at hSw); skip; go_simp; try with_reducible rfl
  simp only [Act.put, List.setIfInBounds_toArray, List.set_cons_zero, List.set_cons_succ]
  refine rgTake (i := 22) (N := some 29) (oi := { dst := some 29, op := Op.pick (Operand.tmp 25) (Operand.tmp 28) (Operand.const (Value.bool false)), type := 4, pos := "law.go:18", after := #[{ on := 18, ground := Ground.data }, { on := 21, ground := Ground.data }], guard := none }) (v := ?_) #[true, true, true, true, true, true, true, true, true, true, true, true, true, true, true, true, true, true, true, true, true, true, true, false, false, false, false] rfl rfl (by kernel_rfl) (fun _ _ _ h => h) (Or.inl ⟨by rfl, ?_⟩) hHeld ?_
  rotate_left
  · intro w' hSw; (try dsimp only at hSw); skip; go_simp; try with_reducible rfl
  simp only [Act.put, List.setIfInBounds_toArray, List.set_cons_zero, List.set_cons_succ]
  refine rgTake (i := 23) (N := some 30) (oi := { dst := some 30, op := Op.move (Operand.tmp 29), type := 4, pos := "law.go:18", after := #[{ on := 22, ground := Ground.data }, { on := 20, ground := Ground.chain }], guard := none }) (v := ?_) #[true, true, true, true, true, true, true, true, true, true, true, true, true, true, true, true, true, true, true, true, true, true, true, true, false, false, false] rfl rfl (by kernel_rfl) (fun _ _ _ h => h) (Or.inl ⟨by rfl, ?_⟩) hHeld ?_
  rotate_left
  · intro w' hSw; (try dsimp only at hSw); skip; go_simp; try with_reducible rfl
  simp only [Act.put, List.setIfInBounds_toArray, List.set_cons_zero, List.set_cons_succ]
  refine rgCall (i := 24) (N := some 31) (oi := { dst := some 31, op := Op.call { callee := Callee.value (Operand.func 13), args := #[], argTypes := #[] }, type := 4, pos := "law.go:18", after := #[{ on := 23, ground := Ground.chain }, { on := 23, ground := Ground.guard }], guard := some (23, true) }) #[true, true, true, true, true, true, true, true, true, true, true, true, true, true, true, true, true, true, true, true, true, true, true, true, true, false, false] rfl rfl (by kernel_rfl) (fun K hK => ?_)
  go_simp
  (go_at_call 13; refine (awake_any _).mono ?_; rintro e w1 ⟨rfl, hb⟩; replace HB := keepB HB hb)
  refine hK.out _ _ (keepR hHeld hb) (fun hHeld => ?_)
  (try simp only [Act.put, List.setIfInBounds_toArray, List.set_cons_zero, List.set_cons_succ])
  clear hK K
  refine rgTake (i := 25) (N := some 32) (oi := { dst := some 32, op := Op.pick (Operand.tmp 30) (Operand.tmp 31) (Operand.const (Value.bool false)), type := 4, pos := "law.go:18", after := #[{ on := 23, ground := Ground.data }, { on := 24, ground := Ground.data }], guard := none }) (v := ?_) #[true, true, true, true, true, true, true, true, true, true, true, true, true, true, true, true, true, true, true, true, true, true, true, true, true, true, false] rfl rfl (by kernel_rfl) (fun _ _ _ h => h) (Or.inl ⟨by rfl, ?_⟩) hHeld ?_
  rotate_left
  · intro w' hSw; (try dsimp only at hSw); skip; go_simp; try with_reducible rfl
  simp only [Act.put, List.setIfInBounds_toArray, List.set_cons_zero, List.set_cons_succ]
  refine rgTake (i := 26) (N := some 6) (oi := { dst := some 6, op := Op.assign (Operand.tmp 32), type := 4, pos := "law.go:18", after := #[{ on := 25, ground := Ground.data }, { on := 24, ground := Ground.chain }, { on := 0, ground := Ground.phase }, { on := 1, ground := Ground.phase }, { on := 2, ground := Ground.phase }, { on := 3, ground := Ground.phase }, { on := 4, ground := Ground.phase }, { on := 5, ground := Ground.phase }, { on := 6, ground := Ground.phase }, { on := 7, ground := Ground.phase }, { on := 8, ground := Ground.phase }, { on := 9, ground := Ground.phase }, { on := 10, ground := Ground.phase }, { on := 11, ground := Ground.phase }, { on := 12, ground := Ground.phase }, { on := 13, ground := Ground.phase }, { on := 14, ground := Ground.phase }, { on := 15, ground := Ground.phase }, { on := 16, ground := Ground.phase }, { on := 17, ground := Ground.phase }, { on := 18, ground := Ground.phase }, { on := 19, ground := Ground.phase }, { on := 20, ground := Ground.phase }, { on := 21, ground := Ground.phase }, { on := 22, ground := Ground.phase }, { on := 23, ground := Ground.phase }, { on := 24, ground := Ground.phase }, { on := 25, ground := Ground.phase }], guard := none }) (v := ?_) #[true, true, true, true, true, true, true, true, true, true, true, true, true, true, true, true, true, true, true, true, true, true, true, true, true, true, true] rfl rfl (by kernel_rfl) (fun _ _ _ h => h) (Or.inl ⟨by rfl, ?_⟩) hHeld ?_
  rotate_left
  · intro w' hSw; (try dsimp only at hSw); skip; go_simp; try with_reducible rfl
  simp only [Act.put, List.setIfInBounds_toArray, List.set_cons_zero, List.set_cons_succ]
  refine rgDone (by kernel_rfl) ?_ _
  go_wp2
  go_ret
  exact ⟨rfl, HB.out.1⟩

set_option maxHeartbeats 4000000 in
theorem tells_any (xs : List Int) (n p : Int) (w : World) (hl : xs.length = 16) : Calls Try.prog 4 #[.agg (ma .i64 xs), .int .i64 n, .int .i64 p] w fun e w' => e = .returned (.bool true) ∧ Below w.heap.size w w' := by
  have HB : Hid (Below w.heap.size w (w.alloc (.cells (ma .i64 xs) 23)).drew ∧ w.heap.size ≤ (w.alloc (.cells (ma .i64 xs) 23)).drew.heap.size) := ⟨below_dn ((Below.refl _ _).alloc (Nat.le_refl _) _) 1, by simp⟩
  have hu := Try.underlying23
  have hi : (Try.prog.info? 23).map (·.size) = some xs.length := by rw [hl]; exact infoMap
  have HR : Hid ((w.alloc (.cells (ma .i64 xs) 23)).drew.rangeAt w.heap.size 0 (xs.map (Value.int .i64))) := ma_range (heap_alloc_new w _)
  have HL := Lib.hid hl
  clear hl
  go_enter Try.func4, Try.ntmps4
  go_wp2
  refine rgStart (S := (fun w' => w'.rangeAt w.heap.size 0 (xs.map (Value.int .i64)))) (n := 20) #[false, false, false, false, false, false, false, false, false, false, false, false, false, false, false, false, false, false, false, false] (by kernel_rfl) rfl rfl HR.out (fun hHeld => ?_)
  refine rgTake (i := 0) (N := some 7) (oi := { dst := some 7, op := Op.load 23 (Operand.tmp 3), type := 23, pos := "law.go:23", after := #[], guard := none }) (v := _) #[true, false, false, false, false, false, false, false, false, false, false, false, false, false, false, false, false, false, false, false] rfl rfl (by kernel_rfl) (fun _ _ _ h => h) (yieldsMa (by rfl) _ _ rfl _ rfl .i64 xs (fun _ h => h) hu rfl hi) hHeld ?_
  simp only [Act.put, List.setIfInBounds_toArray, List.set_cons_zero, List.set_cons_succ]
  refine rgTake (i := 1) (N := some 8) (oi := { dst := some 8, op := Op.move (Operand.tmp 1), type := 3, pos := "law.go:23", after := #[], guard := none }) (v := ?_) #[true, true, false, false, false, false, false, false, false, false, false, false, false, false, false, false, false, false, false, false] rfl rfl (by kernel_rfl) (fun _ _ _ h => h) (Or.inl ⟨by rfl, ?_⟩) hHeld ?_
  rotate_left
  · intro w' hSw; (try dsimp only at hSw); skip; go_simp; try with_reducible rfl
  simp only [Act.put, List.setIfInBounds_toArray, List.set_cons_zero, List.set_cons_succ]
  refine rgTake (i := 3) (N := some 10) (oi := { dst := some 10, op := Op.load 23 (Operand.tmp 3), type := 23, pos := "law.go:23", after := #[], guard := none }) (v := _) #[true, true, false, true, false, false, false, false, false, false, false, false, false, false, false, false, false, false, false, false] rfl rfl (by kernel_rfl) (fun _ _ _ h => h) (yieldsMa (by rfl) _ _ rfl _ rfl .i64 xs (fun _ h => h) hu rfl hi) hHeld ?_
  simp only [Act.put, List.setIfInBounds_toArray, List.set_cons_zero, List.set_cons_succ]
  refine rgTake (i := 4) (N := some 11) (oi := { dst := some 11, op := Op.move (Operand.tmp 1), type := 3, pos := "law.go:23", after := #[], guard := none }) (v := ?_) #[true, true, false, true, true, false, false, false, false, false, false, false, false, false, false, false, false, false, false, false] rfl rfl (by kernel_rfl) (fun _ _ _ h => h) (Or.inl ⟨by rfl, ?_⟩) hHeld ?_
  rotate_left
  · intro w' hSw; (try dsimp only at hSw); skip; go_simp; try with_reducible rfl
  simp only [Act.put, List.setIfInBounds_toArray, List.set_cons_zero, List.set_cons_succ]
  refine rgCall (i := 2) (N := some 9) (oi := { dst := some 9, op := Op.call { callee := Callee.value (Operand.func 14), args := #[Operand.tmp 7, Operand.tmp 8], argTypes := #[23, 3] }, type := 4, pos := "law.go:23", after := #[{ on := 0, ground := Ground.data }, { on := 1, ground := Ground.data }], guard := none }) #[true, true, true, true, true, false, false, false, false, false, false, false, false, false, false, false, false, false, false, false] rfl rfl (by kernel_rfl) (fun K hK => ?_)
  go_simp
  (go_at_call 14; refine (right_any _ _ _ HL.out).mono ?_; rintro e w1 ⟨rfl, hb⟩; replace HB := keepB HB hb)
  refine hK.out _ _ (keepR hHeld hb) (fun hHeld => ?_)
  (try simp only [Act.put, List.setIfInBounds_toArray, List.set_cons_zero, List.set_cons_succ])
  clear hK K
  refine rgCall (i := 5) (N := some 12) (oi := { dst := some 12, op := Op.call { callee := Callee.value (Operand.func 15), args := #[Operand.tmp 10, Operand.tmp 11], argTypes := #[23, 3] }, type := 4, pos := "law.go:23", after := #[{ on := 3, ground := Ground.data }, { on := 4, ground := Ground.data }, { on := 2, ground := Ground.chain }], guard := none }) #[true, true, true, true, true, true, false, false, false, false, false, false, false, false, false, false, false, false, false, false] rfl rfl (by kernel_rfl) (fun K hK => ?_)
  go_simp
  (go_at_call 15; refine (rright_any _ _ _ HL.out).mono ?_; rintro e w1 ⟨rfl, hb⟩; replace HB := keepB HB hb)
  refine hK.out _ _ (keepR hHeld hb) (fun hHeld => ?_)
  (try simp only [Act.put, List.setIfInBounds_toArray, List.set_cons_zero, List.set_cons_succ])
  clear hK K
  refine rgTake (i := 6) (N := some 13) (oi := { dst := some 13, op := Op.binOp BinOp.eql 4 (Operand.tmp 9) (Operand.tmp 12) 4, type := 4, pos := "law.go:23", after := #[{ on := 2, ground := Ground.data }, { on := 5, ground := Ground.data }], guard := none }) (v := ?_) #[true, true, true, true, true, true, true, false, false, false, false, false, false, false, false, false, false, false, false, false] rfl rfl (by kernel_rfl) (fun _ _ _ h => h) (Or.inl ⟨by rfl, ?_⟩) hHeld ?_
  rotate_left
  · intro w' hSw; (try dsimp only at hSw); skip; go_simp; try with_reducible rfl
  simp only [Act.put, List.setIfInBounds_toArray, List.set_cons_zero, List.set_cons_succ]
  refine rgTake (i := 7) (N := some 14) (oi := { dst := some 14, op := Op.move (Operand.tmp 13), type := 4, pos := "law.go:23", after := #[{ on := 6, ground := Ground.data }, { on := 5, ground := Ground.chain }], guard := none }) (v := ?_) #[true, true, true, true, true, true, true, true, false, false, false, false, false, false, false, false, false, false, false, false] rfl rfl (by kernel_rfl) (fun _ _ _ h => h) (Or.inl ⟨by rfl, ?_⟩) hHeld ?_
  rotate_left
  · intro w' hSw; (try dsimp only at hSw); skip; go_simp; try with_reducible rfl
  simp only [Act.put, List.setIfInBounds_toArray, List.set_cons_zero, List.set_cons_succ]
  refine rgTake (i := 8) (N := some 15) (oi := { dst := some 15, op := Op.load 23 (Operand.tmp 3), type := 23, pos := "law.go:23", after := #[{ on := 7, ground := Ground.guard }], guard := some (7, true) }) (v := _) #[true, true, true, true, true, true, true, true, true, false, false, false, false, false, false, false, false, false, false, false] rfl rfl (by kernel_rfl) (fun _ _ _ h => h) (yieldsMa (by rfl) _ _ rfl _ rfl .i64 xs (fun _ h => h) hu rfl hi) hHeld ?_
  simp only [Act.put, List.setIfInBounds_toArray, List.set_cons_zero, List.set_cons_succ]
  refine rgTake (i := 9) (N := some 16) (oi := { dst := some 16, op := Op.move (Operand.tmp 2), type := 3, pos := "law.go:23", after := #[{ on := 7, ground := Ground.guard }], guard := some (7, true) }) (v := ?_) #[true, true, true, true, true, true, true, true, true, true, false, false, false, false, false, false, false, false, false, false] rfl rfl (by kernel_rfl) (fun _ _ _ h => h) (Or.inl ⟨by rfl, ?_⟩) hHeld ?_
  rotate_left
  · intro w' hSw; (try dsimp only at hSw); skip; go_simp; try with_reducible rfl
  simp only [Act.put, List.setIfInBounds_toArray, List.set_cons_zero, List.set_cons_succ]
  refine rgTake (i := 11) (N := some 18) (oi := { dst := some 18, op := Op.load 23 (Operand.tmp 3), type := 23, pos := "law.go:23", after := #[{ on := 7, ground := Ground.guard }], guard := some (7, true) }) (v := _) #[true, true, true, true, true, true, true, true, true, true, false, true, false, false, false, false, false, false, false, false] rfl rfl (by kernel_rfl) (fun _ _ _ h => h) (yieldsMa (by rfl) _ _ rfl _ rfl .i64 xs (fun _ h => h) hu rfl hi) hHeld ?_
  simp only [Act.put, List.setIfInBounds_toArray, List.set_cons_zero, List.set_cons_succ]
  refine rgTake (i := 12) (N := some 19) (oi := { dst := some 19, op := Op.move (Operand.tmp 2), type := 3, pos := "law.go:23", after := #[{ on := 7, ground := Ground.guard }], guard := some (7, true) }) (v := ?_) #[true, true, true, true, true, true, true, true, true, true, false, true, true, false, false, false, false, false, false, false] rfl rfl (by kernel_rfl) (fun _ _ _ h => h) (Or.inl ⟨by rfl, ?_⟩) hHeld ?_
  rotate_left
  · intro w' hSw; (try dsimp only at hSw); skip; go_simp; try with_reducible rfl
  simp only [Act.put, List.setIfInBounds_toArray, List.set_cons_zero, List.set_cons_succ]
  refine rgCall (i := 10) (N := some 17) (oi := { dst := some 17, op := Op.call { callee := Callee.value (Operand.func 16), args := #[Operand.tmp 15, Operand.tmp 16], argTypes := #[23, 3] }, type := 4, pos := "law.go:23", after := #[{ on := 8, ground := Ground.data }, { on := 9, ground := Ground.data }, { on := 7, ground := Ground.chain }, { on := 7, ground := Ground.guard }], guard := some (7, true) }) #[true, true, true, true, true, true, true, true, true, true, true, true, true, false, false, false, false, false, false, false] rfl rfl (by kernel_rfl) (fun K hK => ?_)
  go_simp
  (go_at_call 16; refine (uses_any _ _ _ HL.out).mono ?_; rintro e w1 ⟨rfl, hb⟩; replace HB := keepB HB hb)
  refine hK.out _ _ (keepR hHeld hb) (fun hHeld => ?_)
  (try simp only [Act.put, List.setIfInBounds_toArray, List.set_cons_zero, List.set_cons_succ])
  clear hK K
  refine rgCall (i := 13) (N := some 20) (oi := { dst := some 20, op := Op.call { callee := Callee.value (Operand.func 17), args := #[Operand.tmp 18, Operand.tmp 19], argTypes := #[23, 3] }, type := 4, pos := "law.go:23", after := #[{ on := 11, ground := Ground.data }, { on := 12, ground := Ground.data }, { on := 10, ground := Ground.chain }, { on := 7, ground := Ground.guard }], guard := some (7, true) }) #[true, true, true, true, true, true, true, true, true, true, true, true, true, true, false, false, false, false, false, false] rfl rfl (by kernel_rfl) (fun K hK => ?_)
  go_simp
  (go_at_call 17; refine (ruses_any _ _ _ HL.out).mono ?_; rintro e w1 ⟨rfl, hb⟩; replace HB := keepB HB hb)
  refine hK.out _ _ (keepR hHeld hb) (fun hHeld => ?_)
  (try simp only [Act.put, List.setIfInBounds_toArray, List.set_cons_zero, List.set_cons_succ])
  clear hK K
  refine rgTake (i := 14) (N := some 21) (oi := { dst := some 21, op := Op.binOp BinOp.eql 4 (Operand.tmp 17) (Operand.tmp 20) 4, type := 4, pos := "law.go:23", after := #[{ on := 10, ground := Ground.data }, { on := 13, ground := Ground.data }, { on := 7, ground := Ground.guard }], guard := some (7, true) }) (v := ?_) #[true, true, true, true, true, true, true, true, true, true, true, true, true, true, true, false, false, false, false, false] rfl rfl (by kernel_rfl) (fun _ _ _ h => h) (Or.inl ⟨by rfl, ?_⟩) hHeld ?_
  rotate_left
  · intro w' hSw; (try dsimp only at hSw); skip; go_simp; try with_reducible rfl
  simp only [Act.put, List.setIfInBounds_toArray, List.set_cons_zero, List.set_cons_succ]
  refine rgTake (i := 15) (N := some 22) (oi := { dst := some 22, op := Op.pick (Operand.tmp 14) (Operand.tmp 21) (Operand.const (Value.bool false)), type := 4, pos := "law.go:23", after := #[{ on := 7, ground := Ground.data }, { on := 14, ground := Ground.data }], guard := none }) (v := ?_) #[true, true, true, true, true, true, true, true, true, true, true, true, true, true, true, true, false, false, false, false] rfl rfl (by kernel_rfl) (fun _ _ _ h => h) (Or.inl ⟨by rfl, ?_⟩) hHeld ?_
  rotate_left
  · intro w' hSw; (try dsimp only at hSw); skip; go_simp; try with_reducible rfl
  simp only [Act.put, List.setIfInBounds_toArray, List.set_cons_zero, List.set_cons_succ]
  refine rgTake (i := 16) (N := some 23) (oi := { dst := some 23, op := Op.move (Operand.tmp 22), type := 4, pos := "law.go:23", after := #[{ on := 15, ground := Ground.data }, { on := 13, ground := Ground.chain }], guard := none }) (v := ?_) #[true, true, true, true, true, true, true, true, true, true, true, true, true, true, true, true, true, false, false, false] rfl rfl (by kernel_rfl) (fun _ _ _ h => h) (Or.inl ⟨by rfl, ?_⟩) hHeld ?_
  rotate_left
  · intro w' hSw; (try dsimp only at hSw); skip; go_simp; try with_reducible rfl
  simp only [Act.put, List.setIfInBounds_toArray, List.set_cons_zero, List.set_cons_succ]
  refine rgCall (i := 17) (N := some 24) (oi := { dst := some 24, op := Op.call { callee := Callee.value (Operand.func 13), args := #[], argTypes := #[] }, type := 4, pos := "law.go:23", after := #[{ on := 16, ground := Ground.chain }, { on := 16, ground := Ground.guard }], guard := some (16, true) }) #[true, true, true, true, true, true, true, true, true, true, true, true, true, true, true, true, true, true, false, false] rfl rfl (by kernel_rfl) (fun K hK => ?_)
  go_simp
  (go_at_call 13; refine (awake_any _).mono ?_; rintro e w1 ⟨rfl, hb⟩; replace HB := keepB HB hb)
  refine hK.out _ _ (keepR hHeld hb) (fun hHeld => ?_)
  (try simp only [Act.put, List.setIfInBounds_toArray, List.set_cons_zero, List.set_cons_succ])
  clear hK K
  refine rgTake (i := 18) (N := some 25) (oi := { dst := some 25, op := Op.pick (Operand.tmp 23) (Operand.tmp 24) (Operand.const (Value.bool false)), type := 4, pos := "law.go:23", after := #[{ on := 16, ground := Ground.data }, { on := 17, ground := Ground.data }], guard := none }) (v := ?_) #[true, true, true, true, true, true, true, true, true, true, true, true, true, true, true, true, true, true, true, false] rfl rfl (by kernel_rfl) (fun _ _ _ h => h) (Or.inl ⟨by rfl, ?_⟩) hHeld ?_
  rotate_left
  · intro w' hSw; (try dsimp only at hSw); skip; go_simp; try with_reducible rfl
  simp only [Act.put, List.setIfInBounds_toArray, List.set_cons_zero, List.set_cons_succ]
  refine rgTake (i := 19) (N := some 6) (oi := { dst := some 6, op := Op.assign (Operand.tmp 25), type := 4, pos := "law.go:23", after := #[{ on := 18, ground := Ground.data }, { on := 17, ground := Ground.chain }, { on := 0, ground := Ground.phase }, { on := 1, ground := Ground.phase }, { on := 2, ground := Ground.phase }, { on := 3, ground := Ground.phase }, { on := 4, ground := Ground.phase }, { on := 5, ground := Ground.phase }, { on := 6, ground := Ground.phase }, { on := 7, ground := Ground.phase }, { on := 8, ground := Ground.phase }, { on := 9, ground := Ground.phase }, { on := 10, ground := Ground.phase }, { on := 11, ground := Ground.phase }, { on := 12, ground := Ground.phase }, { on := 13, ground := Ground.phase }, { on := 14, ground := Ground.phase }, { on := 15, ground := Ground.phase }, { on := 16, ground := Ground.phase }, { on := 17, ground := Ground.phase }, { on := 18, ground := Ground.phase }], guard := none }) (v := ?_) #[true, true, true, true, true, true, true, true, true, true, true, true, true, true, true, true, true, true, true, true] rfl rfl (by kernel_rfl) (fun _ _ _ h => h) (Or.inl ⟨by rfl, ?_⟩) hHeld ?_
  rotate_left
  · intro w' hSw; (try dsimp only at hSw); skip; go_simp; try with_reducible rfl
  simp only [Act.put, List.setIfInBounds_toArray, List.set_cons_zero, List.set_cons_succ]
  refine rgDone (by kernel_rfl) ?_ _
  go_wp2
  go_ret
  exact ⟨rfl, HB.out.1⟩

end Go.Proofs.Ytfapojamfgeikaa.My
