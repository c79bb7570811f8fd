/- Walks over the reference of package freel: who is in a ring; are two rings one. -/
import Derived.Test.YtpgighhnhidpcaaFreelList
set_option linter.unusedSimpArgs false
set_option linter.unusedVariables false
namespace Go.Proofs.Ytpgighhnhidpcaa.My
open Go.RowKit
section
variable {P : Program} {ops : Array Oper} {o : Oper} {a : Act} {w : World} {K : Act → World → Prop} {Q : Exit → Act → World → Prop} {E : Prop}
theorem rgAppD (hw : Region.wanted o (yielded ops a.tmps) = true) (s x : Operand) (t e : TypeId) (z : Value) (bytes : Nat) (ho : o.op = .call { callee := .builtin .append, args := #[s, x], argTypes := #[t, t] })
    (ht : P.underlying t = some (.slice e)) (hinfo : (P.info? e).map (fun i => (i.zero, i.size, i.bytes)) = some (some z, 1, bytes)) (hzc : z.cells.size = 1)
    (B : Nat) (v : Value) (n : Nat) (xs : List Value) (hs : a.eval s = v) (hown : w.drew.ownsRow B e 1 v n xs) (u : Value) (hu : u.oneCell' = true) {tt : TypeId} (c : Nat)
    (hx : a.eval x = .slice (some ⟨w.heap.size, 0, none⟩) 1 c) (h63 : n + 1 ≤ maxLen) (hb : (n + 1) * bytes ≤ 140737488355328) (hB : B ≤ w.drew.heap.size)
    (h : ∀ (v' : Value) (w2 : World), w2.ownsRow B e 1 v' (n + 1) (xs ++ [u]) → Below B (w.drew.alloc (.cells #[u] tt)) w2 → K (a.put o.dst v') w2) :
    if Region.wanted o (yielded ops a.tmps) = true then Oper.wp P o a (w.alloc (.cells #[u] tt)).drew K Q else E :=
  rgApp (w := w.drew) hw s x t e z bytes ho ht hinfo hzc B v n xs hs hown u hu c hx h63 hb hB h
end
theorem own_mt (w : World) (B : Nat) (o : Obj) (hB : B ≤ (w.alloc o).heap.size) : OwnI ((w.alloc o).alloc (.cells #[] 3)) B (.slice (some ⟨w.heap.size + 1, 0, none⟩) 0 0) [] := by
  have h := heap_alloc_new (w.alloc o) (.cells #[] 3)
  simp only [World.size_alloc] at h hB
  exact ⟨rfl, .inr ⟨w.heap.size + 1, 0, #[], rfl, hB, h, Nat.le_refl _, Nat.zero_le _, rfl, rfl⟩⟩
theorem rlist_no (A : Option Addr) (n c : Nat) (h N : Int) (w : World) (hnm : n ≤ 9223372036854775807) (hs : soundB n h N = false) : Calls Try.prog 58 #[.agg #[.slice A n c, .int .i64 h, .int .i64 N]] w fun e w' => (∃ v, e = .returned v ∧ OwnI w' w.heap.size v []) ∧ Below w.heap.size w w' := by
  have HA : Hid (((w.alloc (.cells #[.slice A n c, .int .i64 h, .int .i64 N] 26)).alloc (.cells #[] 3)).heap[w.heap.size]? = some (.cells #[.slice A n c, .int .i64 h, .int .i64 N] 26 (0, 0))) := keepAa (newA w _) _
  have HB := keepBa (keepBa (startB w) (.cells #[.slice A n c, .int .i64 h, .int .i64 N] 26)) (.cells #[] 3)
  have HO := Lib.hid (own_mt w w.heap.size (.cells #[.slice A n c, .int .i64 h, .int .i64 N] 26) (by simp))
  go_enter Try.func58, Try.ntmps58
  go_wp2_with (first | (go_at_call 55; refine (is_any _ _ _ _ _ _ hnm).mono ?_; rintro e w1 ⟨rfl, hb⟩; replace HA := keepA HA hb; replace HB := keepB HB hb; (try clear c0 c1 c2); have c0 := (cellA HA 0).trans rfl; have c1 := (cellA HA 1).trans rfl; have c2 := (cellA HA 2).trans rfl; replace HO := Lib.hid (own_below HO.out hb); clear hb) | (refine rowLoad rfl 26 _ rfl _ rfl HA.out Try.underlying26 rfl infoFree ?_))
  go_ret
  exact ⟨⟨_, rfl, HO.out⟩, HB.out.1⟩
set_option maxHeartbeats 4000000 in
theorem rlist_yes (b off n c : Nat) (h N : Int) (xs : List Int) (w : World) (hc : ∀ j, j < n → w.cell? ⟨b, off + j, none⟩ = some (.int .i64 (el xs j))) (hn0 : 0 < n) (hs : soundB n h N = true) : Calls Try.prog 58 #[.agg #[.slice (some ⟨b, off, none⟩) n c, .int .i64 h, .int .i64 N]] w fun e w' => (∃ v, e = .returned v ∧ OwnI w' w.heap.size v (ringL xs n h N)) ∧ Below w.heap.size w w' := by
  obtain ⟨hn9, h0, h1', N0, N1⟩ := sound_iff.1 hs
  have h1 : h < n := by omega
  have hnm : n ≤ 9223372036854775807 := by omega
  have hnz : ¬ n = 0 := by omega
  obtain ⟨L, hL⟩ : ∃ L, ringL xs n h N = L := ⟨_, rfl⟩
  have hll := ring_len (xs := xs) hs
  rw [hL] at hll ⊢
  have HTK := Lib.hid (fun k (hk : k < N.toNat) => ring_take (xs := xs) hs hk)
  rw [hL] at HTK
  have HLL := Lib.hid hll
  have HCS := Lib.hid hc
  clear hll hc h1' hL
  have HA : Hid (((w.alloc (.cells #[.slice (some ⟨b, off, none⟩) n c, .int .i64 h, .int .i64 N] 26)).alloc (.cells #[] 3)).heap[w.heap.size]? = some (.cells #[.slice (some ⟨b, off, none⟩) n c, .int .i64 h, .int .i64 N] 26 (0, 0))) := keepAa (newA w _) _
  have HB := keepBa (keepBa (startB w) (.cells #[.slice (some ⟨b, off, none⟩) n c, .int .i64 h, .int .i64 N] 26)) (.cells #[] 3)
  have HO := Lib.hid (own_mt w (w.heap.size + 1) (.cells #[.slice (some ⟨b, off, none⟩) n c, .int .i64 h, .int .i64 N] 26) (by simp))
  go_enter Try.func58, Try.ntmps58
  go_wp2_with (first | (go_at_call 55; refine (is_any _ _ _ _ _ _ hnm).mono ?_; rintro e w1 ⟨rfl, hb⟩; replace HA := keepA HA hb; replace HB := keepB HB hb; (try clear c0 c1 c2); have c0 := (cellA HA 0).trans rfl; have c1 := (cellA HA 1).trans rfl; have c2 := (cellA HA 2).trans rfl; replace HO := Lib.hid (own_below HO.out hb); clear hb) | (refine rowLoad rfl 26 _ rfl _ rfl HA.out Try.underlying26 rfl infoFree ?_))
  clear c0 c1 c2
  go_loopw [3, 4] (fun o i wr => ∃ (k : Nat) (ys : List Int), k ≤ N.toNat ∧ i = .int .i64 k ∧ ys.length = k ∧ Hid (ys = L.take k) ∧ Hid (OwnI wr (w.heap.size + 1) o ys) ∧ Hid (wr.heap[w.heap.size]? = some (.cells #[.slice (some ⟨b, off, none⟩) n c, .int .i64 h, .int .i64 N] 26 (0, 0))) ∧ Hid (Below w.heap.size w wr ∧ w.heap.size ≤ wr.heap.size)) (fun _ i _ => N.toNat - (intOf i).toNat)
  case atStart => exact ⟨0, [], Nat.zero_le _, rfl, rfl, Lib.hid rfl, HO, HA, HB⟩
  case round =>
    clear HA HB HO
    obtain ⟨k, ys, hk, rfl, hyl, HY, HO, HA, HB⟩ := hrel
    (try clear c0 c1 c2); have c0 := (cellA HA 0).trans rfl; have c1 := (cellA HA 1).trans rfl; have c2 := (cellA HA 2).trans rfl
    by_cases hlt : k < N.toNat
    · obtain ⟨b0, b1⟩ := atZ_bounds h (k : Int) hn0
      obtain ⟨J, hJ⟩ := Int.eq_ofNat_of_zero_le b0
      obtain ⟨E, hE⟩ : ∃ E, el xs J = E := ⟨_, rfl⟩
      have hJn : J < n := by omega
      have HE0 := Lib.hid (HCS.out J hJn)
      rw [hE] at HE0
      have HE := Lib.hid (cellB HB.out.1 HE0.out)
      have HY2 : Hid (ys ++ [E] = L.take (k + 1)) := Lib.hid (by rw [HTK.out k hlt, HY.out, ← hE, hJ]; rfl)
      have HSZ : Hid (w.heap.size + 1 ≤ wr.heap.size) := Lib.hid (Array.getElem?_eq_some_iff.1 HA.out).1
      have hN : (k : Int) < N := by omega
      have ewr : IntKind.i64.wrap (h + (k : Int)) = h + (k : Int) := by rw [IntKind.wrap_i64]; omega
      have em : (h + (k : Int)).tmod (n : Int) = (J : Int) := by rw [Int.tmod_eq_emod_of_nonneg (by omega)]; exact hJ
      clear b0 b1 hJ hE
      go_wp2
      replace HA := keepA1 HA
      replace HB := keepB1 HB
      replace HO : Hid (OwnI wr.drew (w.heap.size + 1) _ ys) := HO
      replace HSZ : Hid (w.heap.size + 1 ≤ wr.drew.heap.size) := HSZ
      refine rgStart (S := (fun w' => w'.heap[w.heap.size]? = some (.cells #[.slice (some ⟨b, off, none⟩) n c, .int .i64 h, .int .i64 N] 26 (0, 0)) ∧ w'.cell? ⟨b, off + J, none⟩ = some (.int .i64 E))) (n := 16) #[false, false, false, false, false, false, false, false, false, false, false, false, false, false, false, false] (by kernel_rfl) rfl rfl ⟨HA.out, HE.out⟩ (fun hHeld => ?_)
      refine rgTake (i := 0) (N := some 16) (oi := { dst := some 16, op := Op.move (Operand.tmp 3), type := 24, pos := "ref.go:89", after := #[], guard := none }) (v := ?_) #[true, false, false, false, false, false, false, false, false, false, false, false, false, false, false, false] rfl rfl (by kernel_rfl) (fun _ _ _ h => h) (Or.inl ⟨by rfl, ?_⟩) hHeld ?_
      rotate_left
      · intro w' hSw; (try dsimp only at hSw); (have s0 := (cell_of_row _ _ 0 _ _ _ hSw.1).trans rfl; have s2 := (cell_of_row _ _ 1 _ _ _ hSw.1).trans rfl; have s1 := hSw.2); go_simp; try with_reducible rfl
      simp only [Act.put, List.setIfInBounds_toArray, List.set_cons_zero, List.set_cons_succ]
      refine rgTake (i := 1) (N := some 17) (oi := { dst := some 17, op := Op.fieldAddr 26 (Operand.tmp 1) 0, type := 0, pos := "ref.go:89", after := #[], guard := none }) (v := ?_) #[true, true, false, false, false, false, false, false, false, false, false, false, false, false, false, false] rfl rfl (by kernel_rfl) (fun _ _ _ h => h) (Or.inl ⟨by rfl, ?_⟩) hHeld ?_
      rotate_left
      · intro w' hSw; (try dsimp only at hSw); (have s0 := (cell_of_row _ _ 0 _ _ _ hSw.1).trans rfl; have s2 := (cell_of_row _ _ 1 _ _ _ hSw.1).trans rfl; have s1 := hSw.2); go_simp; try with_reducible rfl
      simp only [Act.put, List.setIfInBounds_toArray, List.set_cons_zero, List.set_cons_succ]
      refine rgTake (i := 2) (N := some 18) (oi := { dst := some 18, op := Op.load 24 (Operand.tmp 17), type := 24, pos := "ref.go:89", after := #[{ on := 1, ground := Ground.data }], guard := none }) (v := ?_) #[true, true, true, false, false, false, false, false, false, false, false, false, false, false, false, false] rfl rfl (by kernel_rfl) (fun _ _ _ h => h) (Or.inl ⟨by rfl, ?_⟩) hHeld ?_
      rotate_left
      · intro w' hSw; (try dsimp only at hSw); (have s0 := (cell_of_row _ _ 0 _ _ _ hSw.1).trans rfl; have s2 := (cell_of_row _ _ 1 _ _ _ hSw.1).trans rfl; have s1 := hSw.2); go_simp; try with_reducible rfl
      simp only [Act.put, List.setIfInBounds_toArray, List.set_cons_zero, List.set_cons_succ]
      refine rgTake (i := 3) (N := some 19) (oi := { dst := some 19, op := Op.fieldAddr 26 (Operand.tmp 1) 1, type := 0, pos := "ref.go:89", after := #[], guard := none }) (v := ?_) #[true, true, true, true, false, false, false, false, false, false, false, false, false, false, false, false] rfl rfl (by kernel_rfl) (fun _ _ _ h => h) (Or.inl ⟨by rfl, ?_⟩) hHeld ?_
      rotate_left
      · intro w' hSw; (try dsimp only at hSw); (have s0 := (cell_of_row _ _ 0 _ _ _ hSw.1).trans rfl; have s2 := (cell_of_row _ _ 1 _ _ _ hSw.1).trans rfl; have s1 := hSw.2); go_simp; try with_reducible rfl
      simp only [Act.put, List.setIfInBounds_toArray, List.set_cons_zero, List.set_cons_succ]
      refine rgTake (i := 4) (N := some 20) (oi := { dst := some 20, op := Op.load 3 (Operand.tmp 19), type := 3, pos := "ref.go:89", after := #[{ on := 3, ground := Ground.data }], guard := none }) (v := ?_) #[true, true, true, true, true, false, false, false, false, false, false, false, false, false, false, false] rfl rfl (by kernel_rfl) (fun _ _ _ h => h) (Or.inl ⟨by rfl, ?_⟩) hHeld ?_
      rotate_left
      · intro w' hSw; (try dsimp only at hSw); (have s0 := (cell_of_row _ _ 0 _ _ _ hSw.1).trans rfl; have s2 := (cell_of_row _ _ 1 _ _ _ hSw.1).trans rfl; have s1 := hSw.2); go_simp; try with_reducible rfl
      simp only [Act.put, List.setIfInBounds_toArray, List.set_cons_zero, List.set_cons_succ]
      refine rgTake (i := 5) (N := some 21) (oi := { dst := some 21, op := Op.move (Operand.tmp 4), type := 3, pos := "ref.go:89", after := #[], guard := none }) (v := ?_) #[true, true, true, true, true, true, false, false, false, false, false, false, false, false, false, false] rfl rfl (by kernel_rfl) (fun _ _ _ h => h) (Or.inl ⟨by rfl, ?_⟩) hHeld ?_
      rotate_left
      · intro w' hSw; (try dsimp only at hSw); (have s0 := (cell_of_row _ _ 0 _ _ _ hSw.1).trans rfl; have s2 := (cell_of_row _ _ 1 _ _ _ hSw.1).trans rfl; have s1 := hSw.2); go_simp; try with_reducible rfl
      simp only [Act.put, List.setIfInBounds_toArray, List.set_cons_zero, List.set_cons_succ]
      refine rgTake (i := 6) (N := some 22) (oi := { dst := some 22, op := Op.binOp BinOp.add 3 (Operand.tmp 20) (Operand.tmp 21) 3, type := 3, pos := "ref.go:89", after := #[{ on := 4, ground := Ground.data }, { on := 5, ground := Ground.data }], guard := none }) (v := ?_) #[true, true, true, true, true, true, true, false, false, false, false, false, false, false, false, false] rfl rfl (by kernel_rfl) (fun _ _ _ h => h) (Or.inl ⟨by rfl, ?_⟩) hHeld ?_
      rotate_left
      · intro w' hSw; (try dsimp only at hSw); (have s0 := (cell_of_row _ _ 0 _ _ _ hSw.1).trans rfl; have s2 := (cell_of_row _ _ 1 _ _ _ hSw.1).trans rfl; have s1 := hSw.2); go_simp; try with_reducible rfl
      simp only [Act.put, List.setIfInBounds_toArray, List.set_cons_zero, List.set_cons_succ]
      refine rgTake (i := 7) (N := some 23) (oi := { dst := some 23, op := Op.fieldAddr 26 (Operand.tmp 1) 0, type := 0, pos := "ref.go:89", after := #[], guard := none }) (v := ?_) #[true, true, true, true, true, true, true, true, false, false, false, false, false, false, false, false] rfl rfl (by kernel_rfl) (fun _ _ _ h => h) (Or.inl ⟨by rfl, ?_⟩) hHeld ?_
      rotate_left
      · intro w' hSw; (try dsimp only at hSw); (have s0 := (cell_of_row _ _ 0 _ _ _ hSw.1).trans rfl; have s2 := (cell_of_row _ _ 1 _ _ _ hSw.1).trans rfl; have s1 := hSw.2); go_simp; try with_reducible rfl
      simp only [Act.put, List.setIfInBounds_toArray, List.set_cons_zero, List.set_cons_succ]
      refine rgTake (i := 8) (N := some 24) (oi := { dst := some 24, op := Op.load 24 (Operand.tmp 23), type := 24, pos := "ref.go:89", after := #[{ on := 7, ground := Ground.data }], guard := none }) (v := ?_) #[true, true, true, true, true, true, true, true, true, false, false, false, false, false, false, false] rfl rfl (by kernel_rfl) (fun _ _ _ h => h) (Or.inl ⟨by rfl, ?_⟩) hHeld ?_
      rotate_left
      · intro w' hSw; (try dsimp only at hSw); (have s0 := (cell_of_row _ _ 0 _ _ _ hSw.1).trans rfl; have s2 := (cell_of_row _ _ 1 _ _ _ hSw.1).trans rfl; have s1 := hSw.2); go_simp; try with_reducible rfl
      simp only [Act.put, List.setIfInBounds_toArray, List.set_cons_zero, List.set_cons_succ]
      refine rgTake (i := 9) (N := some 25) (oi := { dst := some 25, op := Op.call { callee := Callee.builtin Builtin.len, args := #[Operand.tmp 24], argTypes := #[24] }, type := 3, pos := "ref.go:89", after := #[{ on := 8, ground := Ground.data }], guard := none }) (v := ?_) #[true, true, true, true, true, true, true, true, true, true, false, false, false, false, false, false] rfl rfl (by kernel_rfl) (fun _ _ _ h => h) (Or.inl ⟨by rfl, ?_⟩) hHeld ?_
      rotate_left
      · intro w' hSw; (try dsimp only at hSw); (have s0 := (cell_of_row _ _ 0 _ _ _ hSw.1).trans rfl; have s2 := (cell_of_row _ _ 1 _ _ _ hSw.1).trans rfl; have s1 := hSw.2); go_simp; try with_reducible rfl
      simp only [Act.put, List.setIfInBounds_toArray, List.set_cons_zero, List.set_cons_succ]
      refine rgTake (i := 10) (N := some 26) (oi := { dst := some 26, op := Op.binOp BinOp.rem 3 (Operand.tmp 22) (Operand.tmp 25) 3, type := 3, pos := "ref.go:89", after := #[{ on := 6, ground := Ground.data }, { on := 9, ground := Ground.data }], guard := none }) (v := ?_) #[true, true, true, true, true, true, true, true, true, true, true, false, false, false, false, false] rfl rfl (by kernel_rfl) (fun _ _ _ h => h) (Or.inl ⟨by rfl, ?_⟩) hHeld ?_
      rotate_left
      · intro w' hSw; (try dsimp only at hSw); (have s0 := (cell_of_row _ _ 0 _ _ _ hSw.1).trans rfl; have s2 := (cell_of_row _ _ 1 _ _ _ hSw.1).trans rfl; have s1 := hSw.2); go_simp; try with_reducible rfl
      simp only [Act.put, List.setIfInBounds_toArray, List.set_cons_zero, List.set_cons_succ]
      refine rgTake (i := 11) (N := some 27) (oi := { dst := some 27, op := Op.indexAddr 24 (Operand.tmp 18) (Operand.tmp 26), type := 0, pos := "ref.go:89", after := #[{ on := 2, ground := Ground.data }, { on := 10, ground := Ground.data }], guard := none }) (v := ?_) #[true, true, true, true, true, true, true, true, true, true, true, true, false, false, false, false] rfl rfl (by kernel_rfl) (fun _ _ _ h => h) (Or.inl ⟨by rfl, ?_⟩) hHeld ?_
      rotate_left
      · intro w' hSw; (try dsimp only at hSw); (have s0 := (cell_of_row _ _ 0 _ _ _ hSw.1).trans rfl; have s2 := (cell_of_row _ _ 1 _ _ _ hSw.1).trans rfl; have s1 := hSw.2); go_simp; try with_reducible rfl
      simp only [Act.put, List.setIfInBounds_toArray, List.set_cons_zero, List.set_cons_succ]
      refine rgTake (i := 12) (N := some 28) (oi := { dst := some 28, op := Op.load 3 (Operand.tmp 27), type := 3, pos := "ref.go:89", after := #[{ on := 11, ground := Ground.data }], guard := none }) (v := ?_) #[true, true, true, true, true, true, true, true, true, true, true, true, true, false, false, false] rfl rfl (by kernel_rfl) (fun _ _ _ h => h) (Or.inl ⟨by rfl, ?_⟩) hHeld ?_
      rotate_left
      · intro w' hSw; (try dsimp only at hSw); (have s0 := (cell_of_row _ _ 0 _ _ _ hSw.1).trans rfl; have s2 := (cell_of_row _ _ 1 _ _ _ hSw.1).trans rfl; have s1 := hSw.2); go_simp; try with_reducible rfl
      simp only [Act.put, List.setIfInBounds_toArray, List.set_cons_zero, List.set_cons_succ]
      refine rgCall (i := 13) (N := some 29) (oi := { dst := some 29, op := Op.buildSlice 24 1 #[(0, Operand.tmp 28)], type := 24, pos := "ref.go:89", after := #[{ on := 12, ground := Ground.data }], guard := none }) #[true, true, true, true, true, true, true, true, true, true, true, true, true, true, false, false] rfl rfl (by kernel_rfl) (fun K hK => ?_)
      (go_simp; replace HA := keepAa HA (.cells #[.int .i64 E] 3); replace HB := keepBa HB (.cells #[.int .i64 E] 3))
      refine hK.out _ _ (by first | exact ⟨(keepA (Lib.hid hHeld.out.1) hb).out, (hb.cell (World.block_lt_of_cell? _ _ hHeld.out.2)).trans hHeld.out.2⟩ | exact ⟨HA.out, cellB HB.out.1 HE0.out⟩) (fun hHeld => ?_)
      (try simp only [Act.put, List.setIfInBounds_toArray, List.set_cons_zero, List.set_cons_succ])
      clear hK K
      refine rgCall (i := 14) (N := some 30) (oi := { dst := some 30, op := Op.call { callee := Callee.builtin Builtin.append, args := #[Operand.tmp 16, Operand.tmp 29], argTypes := #[24, 24] }, type := 24, pos := "ref.go:89", after := #[{ on := 0, ground := Ground.data }, { on := 13, ground := Ground.data }], guard := none }) #[true, true, true, true, true, true, true, true, true, true, true, true, true, true, true, false] rfl rfl (by kernel_rfl) (fun K hK => ?_)
      (refine rgAppD (by rfl) _ _ 24 3 (.int .i64 0) 8 rfl Try.underlying24 infoInt rfl (w.heap.size + 1) _ ys.length (ys.map (Value.int .i64)) rfl HO.out _ rfl _ rfl ?_ ?_ ?_ ?_; (unfold maxLen; omega); omega; exact HSZ.out; intro v2 w3 ho2 hb2; replace HO := Lib.hid (own_put ho2); replace HA := keepAg HA (Nat.lt_succ_self _) hb2; replace HB := keepBg HB (Nat.le_succ _) hb2; clear ho2 hb2)
      refine hK.out _ _ (by first | exact ⟨(keepA (Lib.hid hHeld.out.1) hb).out, (hb.cell (World.block_lt_of_cell? _ _ hHeld.out.2)).trans hHeld.out.2⟩ | exact ⟨HA.out, cellB HB.out.1 HE0.out⟩) (fun hHeld => ?_)
      (try simp only [Act.put, List.setIfInBounds_toArray, List.set_cons_zero, List.set_cons_succ])
      clear hK K
      refine rgTake (i := 15) (N := some 3) (oi := { dst := some 3, op := Op.assign (Operand.tmp 30), type := 24, pos := "ref.go:89", after := #[{ on := 14, ground := Ground.data }, { on := 14, ground := Ground.chain }, { on := 0, ground := Ground.phase }, { on := 1, ground := Ground.phase }, { on := 2, ground := Ground.phase }, { on := 3, ground := Ground.phase }, { on := 4, ground := Ground.phase }, { on := 5, ground := Ground.phase }, { on := 6, ground := Ground.phase }, { on := 7, ground := Ground.phase }, { on := 8, ground := Ground.phase }, { on := 9, ground := Ground.phase }, { on := 10, ground := Ground.phase }, { on := 11, ground := Ground.phase }, { on := 12, ground := Ground.phase }, { on := 13, ground := Ground.phase }, { on := 14, ground := Ground.phase }], guard := none }) (v := ?_) #[true, true, true, true, true, true, true, true, true, true, true, true, true, true, true, true] rfl rfl (by kernel_rfl) (fun _ _ _ h => h) (Or.inl ⟨by rfl, ?_⟩) hHeld ?_
      rotate_left
      · intro w' hSw; (try dsimp only at hSw); (have s0 := (cell_of_row _ _ 0 _ _ _ hSw.1).trans rfl; have s2 := (cell_of_row _ _ 1 _ _ _ hSw.1).trans rfl; have s1 := hSw.2); go_simp; try with_reducible rfl
      simp only [Act.put, List.setIfInBounds_toArray, List.set_cons_zero, List.set_cons_succ]
      refine rgDone (by kernel_rfl) ?_ _
      go_wp2
      go_roundw
      case rel => exact ⟨k + 1, ys ++ [E], by omega, by go_num, by rw [List.length_append]; simp; omega, HY2, HO, HA, HB⟩
      case measure => simp [intOf]; omega
    · have hkN : k = N.toNat := by omega
      have hN : ¬ (k : Int) < N := by omega
      have HYL : Hid (ys = L) := Lib.hid (by rw [HY.out, List.take_of_length_le (by rw [HLL.out]; omega)])
      clear hkN
      go_wp2
      go_ret
      exact ⟨⟨_, rfl, by rw [← HYL.out]; exact own_weak HO.out (Nat.le_succ _)⟩, HB.out.1⟩
theorem ints_any (A C : Option Addr) (n c d : Nat) (xs : List Int) (w : World) (hA : RdA .i64 w A n xs) (hC : RdA .i64 w C n xs) (hn : n ≤ 9223372036854775807) : Calls Try.prog 22 #[.slice A n c, .slice C n d] w fun e w' => e = .returned (.bool true) ∧ Below w.heap.size w w' := by
  have HA := Lib.hid hA
  have HC := Lib.hid hC
  clear hA hC
  go_enter Try.func22, Try.ntmps22
  go_wp2
  go_loopw [5] (fun i wr => ∃ k m : Nat, k ≤ n ∧ i = .int .i64 k ∧ wr = w.drewN m) (fun i _ => n - (intOf i).toNat)
  case atStart => exact ⟨0, 0, Nat.zero_le _, rfl, rfl⟩
  case round =>
    obtain ⟨k, m, hk, rfl, rfl⟩ := hrel
    by_cases hlt : k < n
    · obtain ⟨b, off, rfl, hc1⟩ := HA.out.2 (by omega)
      obtain ⟨b2, off2, rfl, hc2⟩ := HC.out.2 (by omega)
      have e1 := hc1 k hlt
      have e2 := hc2 k hlt
      clear hc1 hc2 HA HC
      go_wp2
      go_region
      go_wp2
      go_roundw
      case rel => exact ⟨k + 1, _, by omega, by go_num, rfl⟩
      case measure => simp [intOf]; omega
    · obtain rfl : k = n := by omega
      go_wp2
      go_ret
      exact ⟨rfl, below_dn (Below.refl _ _) _⟩
theorem free_any (A C : Option Addr) (n c d : Nat) (h N : Int) (xs : List Int) (w : World) (hA : RdA .i64 w A n xs) (hC : RdA .i64 w C n xs) (hn : n ≤ 9223372036854775807) : Calls Try.prog 27 #[.agg #[.slice A n c, .int .i64 h, .int .i64 N], .agg #[.slice C n d, .int .i64 h, .int .i64 N]] w fun e w' => e = .returned (.bool true) ∧ Below w.heap.size w w' := by
  have HA := Lib.hid hA
  have HC := Lib.hid hC
  have HB := keepBa (keepBa (startB w) (.cells #[.slice A n c, .int .i64 h, .int .i64 N] 26)) (.cells #[.slice C n d, .int .i64 h, .int .i64 N] 26)
  have e1 : (h == h) = true := beq_self_eq_true _
  have e2 : (N == N) = true := beq_self_eq_true _
  clear hA hC
  go_enter Try.func27, Try.ntmps27
  go_wp2_with (go_at_call 22; refine (ints_any _ _ _ _ _ xs _ (HA.out.below HB.out.1) (HC.out.below HB.out.1) hn).mono ?_; rintro e w1 ⟨rfl, hb⟩; replace HB := keepB HB hb; clear hb)
  go_ret
  exact ⟨rfl, HB.out.1⟩
end Go.Proofs.Ytpgighhnhidpcaa.My
