/- Walks: a new ring, both sides. -/
import Derived.Test.YtpgighhnhidpcaaFreelRList
set_option linter.unusedSimpArgs false
set_option linter.unusedVariables false
namespace Go.Proofs.Ytpgighhnhidpcaa.My
open Go.RowKit
/-- A number brought between 0 and m. -/
def cut (n : Int) (m : Nat) : Nat := if n < 0 then 0 else if (m : Int) < n then m else n.toNat
theorem cut_le (n : Int) (m : Nat) : cut n m ≤ m := by unfold cut; split; omega; split <;> omega
def fillN (f : Nat → Int) (m j : Nat) : List Int := (List.range m).map fun (i : Nat) => if i < j then f i else 0
theorem fillN_len (f : Nat → Int) (m j : Nat) : (fillN f m j).length = m := by simp [fillN]
theorem fillN_set (f : Nat → Int) (m : Nat) {j : Nat} (hj : j < m) : (fillN f m j).set j (f j) = fillN f m (j + 1) := by
  apply List.ext_getElem?
  intro i
  rw [List.getElem?_set]
  unfold fillN
  rw [List.getElem?_map, List.getElem?_map, List.length_map, List.length_range]
  by_cases h : i < m
  · rw [List.getElem?_range h]
    by_cases h2 : j = i
    · subst h2; simp [h]
    · by_cases h3 : i < j
      · simp [h2, h3, show i < j + 1 by omega]
      · simp [h2, h3, show ¬ i < j + 1 by omega]
  · rw [List.getElem?_eq_none (by simp; omega)]
    by_cases h2 : j = i
    · omega
    · simp [h2]
theorem fillN_zero (f : Nat → Int) (m : Nat) : fillN f m 0 = List.replicate m 0 := by
  apply List.ext_getElem
  · simp [fillN]
  · intro i h1 h2
    simp [fillN]
/-- The numbers of a new ring. -/
def newL (m u : Nat) : List Int := fillN (fun i => (u : Int) + (i : Int)) m (m - u)
section
variable {P : Program} {ops : Array Oper} {o : Oper} {a : Act} {w : World} {Q : Exit → Act → World → Prop} {rest : List Oper}
theorem biMax (hw : Region.wanted o (yielded ops a.tmps) = true) (x y : Operand) (t : Array TypeId) (ho : o.op = .call { callee := .builtin .max, args := #[x, y], argTypes := t }) (k : IntKind) (p q r : Int) (hx : a.eval x = .int k p) (hy : a.eval y = .int k q) (hr : (if q > p then q else p) = r)
    (hk : wpList P ops Q rest (a.put o.dst (.int k r)) w) : wpList P ops Q (o :: rest) a w :=
  wpList_step fun K hK => by
    subst hr
    rw [if_pos hw]
    unfold Oper.wp execOp
    simp only [ho, resolve, invoke, builtin, Sem.run_bind, Sem.run_pure, Result.andThen_ok, List.map_toArray, List.map_cons, List.map_nil, hx, hy, run_max_int2]
    exact hK _ _ hk
theorem biMin (hw : Region.wanted o (yielded ops a.tmps) = true) (x y : Operand) (t : Array TypeId) (ho : o.op = .call { callee := .builtin .min, args := #[x, y], argTypes := t }) (k : IntKind) (p q r : Int) (hx : a.eval x = .int k p) (hy : a.eval y = .int k q) (hr : (if q < p then q else p) = r)
    (hk : wpList P ops Q rest (a.put o.dst (.int k r)) w) : wpList P ops Q (o :: rest) a w :=
  wpList_step fun K hK => by
    subst hr
    rw [if_pos hw]
    unfold Oper.wp execOp
    simp only [ho, resolve, invoke, builtin, Sem.run_bind, Sem.run_pure, Result.andThen_ok, List.map_toArray, List.map_cons, List.map_nil, hx, hy, run_min_int2]
    exact hK _ _ hk
end
set_option maxHeartbeats 2000000 in
theorem new_any (n u : Int) (M U : Nat) (w : World) (hM : cut n 96 = M) (hU : cut u M = U) : Calls Try.prog 29 #[.int .i64 n, .int .i64 u] w fun e w' => NewFree w w' M (newL M U) 0 ((M : Int) - (U : Int)) e := by
  have hm96 : M ≤ 96 := hM ▸ cut_le n 96
  have hum : U ≤ M := hU ▸ cut_le u M
  obtain ⟨f, hf⟩ : ∃ f : Nat → Int, f = fun (i : Nat) => (U : Int) + (i : Int) := ⟨_, rfl⟩; have hnew : newL M U = fillN f M (M - U) := by rw [hf]; rfl
  rw [hnew]
  obtain ⟨R1, h1⟩ : ∃ R, (if (0 : Int) > n then (0 : Int) else n) = R := ⟨_, rfl⟩
  obtain ⟨R2, h2⟩ : ∃ R, (if (0 : Int) > u then (0 : Int) else u) = R := ⟨_, rfl⟩
  have h3 : (if (96 : Int) < R1 then (96 : Int) else R1) = (M : Int) := by
    rw [← h1]; unfold cut at hM; split at hM <;> (try split at hM) <;> split <;> (try split) <;> omega
  have h4 : (if (M : Int) < R2 then (M : Int) else R2) = (U : Int) := by
    rw [← h2]; unfold cut at hU; split at hU <;> (try split at hU) <;> split <;> (try split) <;> omega
  have H1 := Lib.hid h1
  have H2 := Lib.hid h2
  have H3 := Lib.hid h3
  have H4 := Lib.hid h4
  clear h1 h2 h3 h4
  have HF := Lib.hid hf
  clear hf hM hU hnew
  have hmk := run_make_row' (P := Try.prog) 24 3 (.int .i64 0) 8 Try.underlying24 infoInt rfl .i64 .i64 M (by omega) (by omega)
  have HZ : Hid (((w.alloc (.cells #[.slice none 0 0, .int .i64 0, .int .i64 0] 26)).alloc (.cells (madeCells #[.int .i64 0] M) 3)).heap[w.heap.size]? = some (.cells #[.slice none 0 0, .int .i64 0, .int .i64 0] 26 (0, 0))) := keepAa (newA w _) _
  have HG : Hid (((w.alloc (.cells #[.slice none 0 0, .int .i64 0, .int .i64 0] 26)).alloc (.cells (madeCells #[.int .i64 0] M) 3)).heap[w.heap.size + 1]? = some (.cells (ma .i64 (fillN f M 0)) 3 (0, 0))) := by
    have h1 := (newA (w.alloc (.cells #[.slice none 0 0, .int .i64 0, .int .i64 0] 26)) (.cells (madeCells #[.int .i64 0] M) 3)).out
    simp only [World.size_alloc] at h1
    rw [fillN_zero]
    rw [made_rep] at h1 ⊢
    refine h1.trans ?_
    congr 2
    unfold ma
    rw [List.map_replicate]
  have HB := keepBa (keepBa (startB w) (.cells #[.slice none 0 0, .int .i64 0, .int .i64 0] 26)) (.cells (madeCells #[.int .i64 0] M) 3)
  have HX0 : Hid ((((w.alloc (.cells #[.slice none 0 0, .int .i64 0, .int .i64 0] 26)).alloc (.cells (madeCells #[.int .i64 0] M) 3)).alloc (.cells #[.slice none 0 0, .int .i64 0, .int .i64 0] 26)).heap[w.heap.size + 1 + 1]? = some (.cells #[.slice none 0 0, .int .i64 0, .int .i64 0] 26 (0, 0))) := by
    have h1 := (newA ((w.alloc (.cells #[.slice none 0 0, .int .i64 0, .int .i64 0] 26)).alloc (.cells (madeCells #[.int .i64 0] M) 3)) (.cells #[.slice none 0 0, .int .i64 0, .int .i64 0] 26)).out
    simp only [World.size_alloc] at h1
    exact h1
  replace HZ := keepAa HZ (.cells #[.slice none 0 0, .int .i64 0, .int .i64 0] 26)
  replace HG := keepAa HG (.cells #[.slice none 0 0, .int .i64 0, .int .i64 0] 26)
  replace HB := keepBa HB (.cells #[.slice none 0 0, .int .i64 0, .int .i64 0] 26)
  go_enter Try.func29, Try.ntmps29
  go_wp2_with (first | (refine biMax rfl _ _ _ rfl .i64 n 0 R1 rfl rfl H1.out ?_) | (refine biMin rfl _ _ _ rfl .i64 R1 96 _ rfl rfl H3.out ?_) | (refine biMax rfl _ _ _ rfl .i64 u 0 R2 rfl rfl H2.out ?_) | (refine biMin rfl _ _ _ rfl .i64 R2 M _ rfl rfl H4.out ?_) | (refine rowStore rfl 26 _ _ rfl (w.heap.size + 1 + 1) rfl _ rfl HX0.out infoFree (by rfl) (by simp [Value.oneCell']) ?_; intro wX hx ho; have HX := Lib.hid hx; replace HZ := keepAo HZ (by omega) ho; replace HG := keepAo HG (by omega) ho; replace HB := keepBo HB (by omega) ho; clear ho hx; (try clear x0 x1 x2); have x0 := (cellA HX 0).trans rfl; have x1 := (cellA HX 1).trans rfl; have x2 := (cellA HX 2).trans rfl))
  clear hmk
  go_loopw [22] (fun i wr => ∃ j : Nat, j ≤ M - U ∧ i = .int .i64 j ∧ Hid (wr.heap[w.heap.size]? = some (.cells #[.slice none 0 0, .int .i64 0, .int .i64 0] 26 (0, 0))) ∧ Hid (wr.heap[w.heap.size + 1]? = some (.cells (ma .i64 (fillN f M j)) 3 (0, 0))) ∧ Hid (wr.heap[w.heap.size + 1 + 1]? = some (.cells #[.slice (some ⟨w.heap.size + 1, 0, none⟩) M M, .int .i64 0, .int .i64 ((M : Int) - (U : Int))] 26 (0, 0))) ∧ Hid (Below w.heap.size w wr ∧ w.heap.size ≤ wr.heap.size)) (fun i _ => M - U - (intOf i).toNat)
  case atStart => exact ⟨0, Nat.zero_le _, rfl, HZ, HG, HX, HB⟩
  case round =>
    clear HZ HG HX HB x0 x1 x2
    obtain ⟨j, hj, rfl, HZ, HG, HX, HB⟩ := hrel
    (try clear x0 x1 x2); have x0 := (cellA HX 0).trans rfl; have x1 := (cellA HX 1).trans rfl; have x2 := (cellA HX 2).trans rfl
    by_cases hlt : j < M - U
    · have hN : (j : Int) < (M : Int) - (U : Int) := by omega
      have ef : Hid ((U : Int) + (j : Int) = f j) := Lib.hid (by rw [HF.out])
      go_wp2_with (refine cellStore rfl 3 _ _ rfl (w.heap.size + 1) j rfl (.int .i64 ((U : Int) + (j : Int))) rfl rfl rfl HG.out (by rw [ma_size, fillN_len]; omega) infoInt1 ?_; intro w4 ha ho; replace HB := keepBo HB (by omega) ho; replace HZ := keepAo HZ (by omega) ho; replace HX := keepAo HX (by omega) ho; clear HG; rw [ma_set] at ha; have HG := Lib.hid ha; clear ha ho)
      go_roundw
      case rel => exact ⟨j + 1, by omega, by go_num, HZ, by rw [← fillN_set f M (show j < M by omega), ← ef.out]; exact HG, HX, HB⟩
      case measure => simp [intOf]; omega
    · have hN : ¬ (j : Int) < (M : Int) - (U : Int) := by omega
      obtain rfl : j = M - U := by omega
      go_wp2_with (first | (refine rowLoad rfl 26 _ rfl _ rfl HX.out Try.underlying26 rfl infoFree ?_) | (refine rowStore rfl 26 _ _ rfl _ rfl _ rfl HZ.out infoFree (by rfl) (by simp [Value.oneCell']) ?_; intro w5 hz ho; replace HB := keepBo HB (by omega) ho; replace HG := keepAo HG (by omega) ho; clear HZ; have HZ := Lib.hid hz; clear hz ho))
      refine bodyPost_ret (results_cell_row rfl _ _ w.heap.size 26 #[.slice (some ⟨w.heap.size + 1, 0, none⟩) M M, .int .i64 0, .int .i64 ((M : Int) - (U : Int))] (0, 0) _ rfl HZ.out Try.underlying26 rfl infoFree) rfl ⟨some ⟨w.heap.size + 1, 0, none⟩, M, rfl, RdA.of_row (fillN_len _ _ _) HG.out, fun a ha => ?_, HB.out.1⟩
      injection ha with ha
      rw [← ha]
      show _ ≤ w.heap.size + 1
      omega
theorem within_any (n : Int) (m c : Nat) (w : World) (h : cut n m = c) : Calls Try.prog 53 #[.int .i64 n, .int .i64 0, .int .i64 m] w fun e w' => e = .returned (.int .i64 c) ∧ w = w' := by
  unfold cut at h
  by_cases h1 : n < 0
  · rw [if_pos h1] at h
    subst h
    go_enter Try.func53, Try.ntmps53
    go_wp2
    go_ret
    exact ⟨rfl, rfl⟩
  · rw [if_neg h1] at h
    by_cases h2 : (m : Int) < n
    · rw [if_pos h2] at h
      subst h
      go_enter Try.func53, Try.ntmps53
      go_wp2
      go_ret
      exact ⟨rfl, rfl⟩
    · rw [if_neg h2] at h
      obtain ⟨k, rfl⟩ := Int.eq_ofNat_of_zero_le (show 0 ≤ n by omega)
      obtain rfl : k = c := by simpa using h
      clear h
      go_enter Try.func53, Try.ntmps53
      go_wp2
      go_ret
      exact ⟨rfl, rfl⟩
set_option maxHeartbeats 2000000 in
theorem rnew_any (n u : Int) (M U : Nat) (w : World) (hM : cut n 96 = M) (hU : cut u M = U) : Calls Try.prog 31 #[.int .i64 n, .int .i64 u] w fun e w' => NewFree w w' M (newL M U) 0 ((M : Int) - (U : Int)) e := by
  have hm96 : M ≤ 96 := hM ▸ cut_le n 96
  have hum : U ≤ M := hU ▸ cut_le u M
  obtain ⟨f, hf⟩ : ∃ f : Nat → Int, f = fun (i : Nat) => (U : Int) + (i : Int) := ⟨_, rfl⟩; have hnew : newL M U = fillN f M (M - U) := by rw [hf]; rfl
  rw [hnew]
  have hw1 : ∀ w, Calls Try.prog 53 #[.int .i64 n, .int .i64 0, .int .i64 96] w fun e w' => e = .returned (.int .i64 M) ∧ w = w' := fun w => within_any n 96 M w hM
  have H1 := Lib.hid hw1
  have H2 := Lib.hid (fun w => within_any u M U w hU)
  clear hw1
  have HF := Lib.hid hf
  clear hf hM hU hnew
  have hmk := run_make_row' (P := Try.prog) 24 3 (.int .i64 0) 8 Try.underlying24 infoInt rfl .i64 .i64 M (by omega) (by omega)
  have HZ : Hid (((w.alloc (.cells #[.slice none 0 0, .int .i64 0, .int .i64 0] 26)).alloc (.cells (madeCells #[.int .i64 0] M) 3)).heap[w.heap.size]? = some (.cells #[.slice none 0 0, .int .i64 0, .int .i64 0] 26 (0, 0))) := keepAa (newA w _) _
  have HG : Hid (((w.alloc (.cells #[.slice none 0 0, .int .i64 0, .int .i64 0] 26)).alloc (.cells (madeCells #[.int .i64 0] M) 3)).heap[w.heap.size + 1]? = some (.cells (ma .i64 (fillN f M 0)) 3 (0, 0))) := by
    have h1 := (newA (w.alloc (.cells #[.slice none 0 0, .int .i64 0, .int .i64 0] 26)) (.cells (madeCells #[.int .i64 0] M) 3)).out
    simp only [World.size_alloc] at h1
    rw [fillN_zero]
    rw [made_rep] at h1 ⊢
    refine h1.trans ?_
    congr 2
    unfold ma
    rw [List.map_replicate]
  have HB := keepBa (keepBa (startB w) (.cells #[.slice none 0 0, .int .i64 0, .int .i64 0] 26)) (.cells (madeCells #[.int .i64 0] M) 3)
  have HX0 : Hid ((((w.alloc (.cells #[.slice none 0 0, .int .i64 0, .int .i64 0] 26)).alloc (.cells (madeCells #[.int .i64 0] M) 3)).alloc (.cells #[.slice none 0 0, .int .i64 0, .int .i64 0] 26)).heap[w.heap.size + 1 + 1]? = some (.cells #[.slice none 0 0, .int .i64 0, .int .i64 0] 26 (0, 0))) := by
    have h1 := (newA ((w.alloc (.cells #[.slice none 0 0, .int .i64 0, .int .i64 0] 26)).alloc (.cells (madeCells #[.int .i64 0] M) 3)) (.cells #[.slice none 0 0, .int .i64 0, .int .i64 0] 26)).out
    simp only [World.size_alloc] at h1
    exact h1
  replace HZ := keepAa HZ (.cells #[.slice none 0 0, .int .i64 0, .int .i64 0] 26)
  replace HG := keepAa HG (.cells #[.slice none 0 0, .int .i64 0, .int .i64 0] 26)
  replace HB := keepBa HB (.cells #[.slice none 0 0, .int .i64 0, .int .i64 0] 26)
  go_enter Try.func31, Try.ntmps31
  go_wp2_with (first | (go_at_call 53; refine (H1.out _).mono ?_; clear H1; rintro e w1 ⟨rfl, rfl⟩) | (go_at_call 53; refine (H2.out _).mono ?_; rintro e w1 ⟨rfl, rfl⟩) | (refine rowStore rfl 26 _ _ rfl (w.heap.size + 1 + 1) rfl _ rfl HX0.out infoFree (by rfl) (by simp [Value.oneCell']) ?_; intro wX hx ho; have HX := Lib.hid hx; replace HZ := keepAo HZ (by omega) ho; replace HG := keepAo HG (by omega) ho; replace HB := keepBo HB (by omega) ho; clear ho hx; (try clear x0 x1 x2); have x0 := (cellA HX 0).trans rfl; have x1 := (cellA HX 1).trans rfl; have x2 := (cellA HX 2).trans rfl))
  clear hmk
  go_loopw [8] (fun i wr => ∃ j : Nat, j ≤ M - U ∧ i = .int .i64 j ∧ Hid (wr.heap[w.heap.size]? = some (.cells #[.slice none 0 0, .int .i64 0, .int .i64 0] 26 (0, 0))) ∧ Hid (wr.heap[w.heap.size + 1]? = some (.cells (ma .i64 (fillN f M j)) 3 (0, 0))) ∧ Hid (wr.heap[w.heap.size + 1 + 1]? = some (.cells #[.slice (some ⟨w.heap.size + 1, 0, none⟩) M M, .int .i64 0, .int .i64 ((M : Int) - (U : Int))] 26 (0, 0))) ∧ Hid (Below w.heap.size w wr ∧ w.heap.size ≤ wr.heap.size)) (fun i _ => M - U - (intOf i).toNat)
  case atStart => exact ⟨0, Nat.zero_le _, rfl, HZ, HG, HX, HB⟩
  case round =>
    clear HZ HG HX HB x0 x1 x2
    obtain ⟨j, hj, rfl, HZ, HG, HX, HB⟩ := hrel
    (try clear x0 x1 x2); have x0 := (cellA HX 0).trans rfl; have x1 := (cellA HX 1).trans rfl; have x2 := (cellA HX 2).trans rfl
    by_cases hlt : j < M - U
    · have hN : (j : Int) < (M : Int) - (U : Int) := by omega
      have ef : Hid ((U : Int) + (j : Int) = f j) := Lib.hid (by rw [HF.out])
      go_wp2_with (refine cellStore rfl 3 _ _ rfl (w.heap.size + 1) j rfl (.int .i64 ((U : Int) + (j : Int))) rfl rfl rfl HG.out (by rw [ma_size, fillN_len]; omega) infoInt1 ?_; intro w4 ha ho; replace HB := keepBo HB (by omega) ho; replace HZ := keepAo HZ (by omega) ho; replace HX := keepAo HX (by omega) ho; clear HG; rw [ma_set] at ha; have HG := Lib.hid ha; clear ha ho)
      go_roundw
      case rel => exact ⟨j + 1, by omega, by go_num, HZ, by rw [← fillN_set f M (show j < M by omega), ← ef.out]; exact HG, HX, HB⟩
      case measure => simp [intOf]; omega
    · have hN : ¬ (j : Int) < (M : Int) - (U : Int) := by omega
      obtain rfl : j = M - U := by omega
      go_wp2_with (first | (refine rowLoad rfl 26 _ rfl _ rfl HX.out Try.underlying26 rfl infoFree ?_) | (refine rowStore rfl 26 _ _ rfl _ rfl _ rfl HZ.out infoFree (by rfl) (by simp [Value.oneCell']) ?_; intro w5 hz ho; replace HB := keepBo HB (by omega) ho; replace HG := keepAo HG (by omega) ho; clear HZ; have HZ := Lib.hid hz; clear hz ho))
      refine bodyPost_ret (results_cell_row rfl _ _ w.heap.size 26 #[.slice (some ⟨w.heap.size + 1, 0, none⟩) M M, .int .i64 0, .int .i64 ((M : Int) - (U : Int))] (0, 0) _ rfl HZ.out Try.underlying26 rfl infoFree) rfl ⟨some ⟨w.heap.size + 1, 0, none⟩, M, rfl, RdA.of_row (fillN_len _ _ _) HG.out, fun a ha => ?_, HB.out.1⟩
      injection ha with ha
      rw [← ha]
      show _ ≤ w.heap.size + 1
      omega
end Go.Proofs.Ytpgighhnhidpcaa.My
