/- Walks over package freel and its reference: who is in a ring. -/
import Derived.Test.YtpgighhnhidpcaaFreelBack
set_option linter.unusedSimpArgs false
set_option linter.unusedVariables false
namespace Go.Proofs.Ytpgighhnhidpcaa.My
open Go.RowKit
section
variable {P : Program} {ops : Array Oper} {o : Oper} {a : Act} {w : World} {K : Act → World → Prop} {Q : Exit → Act → World → Prop} {E : Prop}
theorem rgApp (hw : Region.wanted o (yielded ops a.tmps) = true) (s x : Operand) (t e : TypeId) (z : Value) (bytes : Nat) (ho : o.op = .call { callee := .builtin .append, args := #[s, x], argTypes := #[t, t] })
    (ht : P.underlying t = some (.slice e)) (hinfo : (P.info? e).map (fun i => (i.zero, i.size, i.bytes)) = some (some z, 1, bytes)) (hzc : z.cells.size = 1)
    (B : Nat) (v : Value) (n : Nat) (xs : List Value) (hs : a.eval s = v) (hown : w.ownsRow B e 1 v n xs) (u : Value) (hu : u.oneCell' = true) {tt : TypeId} (c : Nat)
    (hx : a.eval x = .slice (some ⟨w.heap.size, 0, none⟩) 1 c) (h63 : n + 1 ≤ maxLen) (hb : (n + 1) * bytes ≤ 140737488355328) (hB : B ≤ w.heap.size)
    (h : ∀ (v' : Value) (w2 : World), w2.ownsRow B e 1 v' (n + 1) (xs ++ [u]) → Below B (w.alloc (.cells #[u] tt)) w2 → K (a.put o.dst v') w2) :
    if Region.wanted o (yielded ops a.tmps) = true then Oper.wp P o a (w.alloc (.cells #[u] tt)) K Q else E := by
  rw [if_pos hw]
  obtain ⟨i0, hi, hzz⟩ := Option.map_eq_some_iff.1 hinfo
  simp only [Prod.mk.injEq] at hzz
  obtain ⟨hz0, hz1, hz2⟩ := hzz
  have hB2 : B ≤ (w.alloc (.cells #[u] tt)).heap.size := by simp; omega
  refine wp_append_own _ s x t ho B e i0 z 1 bytes ht hi hz0 hz1 hz2 hzc (by omega) v n xs hs (hown.alloc _) ⟨w.heap.size, 0, none⟩ 1 c [u] hx rfl ?_ ?_ h63 hb hB2 ?_
  · intro j q hj
    match j, hj with
    | 0, hj =>
      have : u = q := by simpa using hj
      subst this
      have ha : (⟨w.heap.size, 0, none⟩ : Addr).add 0 = ⟨w.heap.size, 0, none⟩ := by simp [Addr.add]
      rw [ha, cell_of_row _ w.heap.size 0 _ _ _ (heap_alloc_new w _)]
      rfl
  · intro q hq
    have : q = u := by simpa using hq
    rw [this]; exact hu
  · intro v' w2 h1 h2 _
    refine h v' w2 h1 ((Below.refl B _).grown h2 hB2 ?_)
    intro k hk
    exact (hown.lt k hk).1
end
theorem own_below {w w' : World} {B e n : Nat} {v : Value} {xs : List Value} (h : w.ownsRow B e 1 v n xs) (hb : Below w.heap.size w w') : w'.ownsRow B e 1 v n xs := by
  refine ⟨h.1, ?_⟩
  rcases h.2 with h | ⟨k, cap, cur, h1, h2, h3, h4⟩
  · exact .inl h
  · exact .inr ⟨k, cap, cur, h1, h2, (hb.block k (Array.getElem?_eq_some_iff.1 h3).1).trans h3, h4⟩
theorem own_nil (w : World) (B : Nat) (e : TypeId) : w.ownsRow B e 1 (.slice none 0 0) 0 [] := ⟨rfl, .inl ⟨rfl, rfl⟩⟩
theorem own_weak {w : World} {B B' e n : Nat} {v : Value} {xs : List Value} (h : w.ownsRow B e 1 v n xs) (hB : B' ≤ B) : w.ownsRow B' e 1 v n xs := by
  refine ⟨h.1, ?_⟩
  rcases h.2 with h | ⟨k, cap, cur, h1, h2, h3⟩
  · exact .inl h
  · exact .inr ⟨k, cap, cur, h1, by omega, h3⟩
theorem keepBg {B B' : Nat} {w0 w w' : World} (h : Hid (Below B w0 w ∧ B ≤ w.heap.size)) (hB : B ≤ B') (hb : Below B' w w') : Hid (Below B w0 w' ∧ B ≤ w'.heap.size) :=
  ⟨h.out.1.trans ⟨hb.os, hb.tape, hb.output, hb.size, fun i hi => hb.block i (by omega)⟩, Nat.le_trans h.out.2 hb.size⟩
theorem keepAg {B g : Nat} {w w' : World} {o : Obj} (h : Hid (w.heap[g]? = some o)) (hg : g < B) (hb : Below B w w') : Hid (w'.heap[g]? = some o) := (hb.block g hg).trans h.out
theorem cellB {w0 w : World} {a : Addr} {v : Value} (hb : Below w0.heap.size w0 w) (h : w0.cell? a = some v) : w.cell? a = some v := (hb.cell (World.block_lt_of_cell? w0 _ h)).trans h
/-- Who is in a ring, the first one first. -/
def ringL (xs : List Int) (n : Nat) (h N : Int) : List Int := if soundB n h N = true then (List.range N.toNat).map fun (k : Nat) => el xs (atZ n h (k : Int)).toNat else []
abbrev OwnI (w : World) (B : Nat) (v : Value) (xs : List Int) : Prop := w.ownsRow B 3 1 v xs.length (xs.map (Value.int .i64))
theorem ring_len {xs : List Int} {n : Nat} {h N : Int} (hs : soundB n h N = true) : (ringL xs n h N).length = N.toNat := by simp [ringL, hs]
theorem ring_take {xs : List Int} {n : Nat} {h N : Int} (hs : soundB n h N = true) {k : Nat} (hk : k < N.toNat) : (ringL xs n h N).take (k + 1) = (ringL xs n h N).take k ++ [el xs (atZ n h k).toNat] := by
  rw [List.take_succ_eq_append_getElem (by rw [ring_len hs]; exact hk)]
  congr 2
  simp [ringL, hs]
theorem own_put {w : World} {B : Nat} {v : Value} {xs : List Int} {x : Int} (h : w.ownsRow B 3 1 v (xs.length + 1) (xs.map (Value.int .i64) ++ [.int .i64 x])) : OwnI w B v (xs ++ [x]) := by
  unfold OwnI
  rw [List.length_append, List.map_append]
  exact h
theorem list_no (A : Option Addr) (n c : Nat) (h N : Int) (w : World) (hnm : n ≤ 9223372036854775807) (hs : soundB n h N = false) : Calls Try.prog 23 #[.agg #[.slice A n c, .int .i64 h, .int .i64 N]] w fun e w' => (∃ v, e = .returned v ∧ OwnI w' w.heap.size v []) ∧ Below w.heap.size w w' := by
  have HA : Hid ((w.alloc (.cells #[.slice A n c, .int .i64 h, .int .i64 N] 26)).heap[w.heap.size]? = some (.cells #[.slice A n c, .int .i64 h, .int .i64 N] 26 (0, 0))) := newA w _
  have HB := keepBa (startB w) (.cells #[.slice A n c, .int .i64 h, .int .i64 N] 26)
  go_enter Try.func23, Try.ntmps23
  go_wp2_with (first | (go_at_call 43; refine (sound_any _ _ _ _ _ _ hnm).mono ?_; rintro e w1 ⟨rfl, hb⟩; replace HA := keepA HA hb; replace HB := keepB HB hb; (try clear c0 c1 c2); have c0 := (cellA HA 0).trans rfl; have c1 := (cellA HA 1).trans rfl; have c2 := (cellA HA 2).trans rfl; clear hb) | (refine rowLoad rfl 26 _ rfl _ rfl HA.out Try.underlying26 rfl infoFree ?_))
  go_ret
  exact ⟨⟨_, rfl, own_nil _ _ _⟩, HB.out.1⟩
set_option maxHeartbeats 4000000 in
theorem list_yes (b off n c : Nat) (h N : Int) (xs : List Int) (w : World) (hc : ∀ j, j < n → w.cell? ⟨b, off + j, none⟩ = some (.int .i64 (el xs j))) (hn0 : 0 < n) (hs : soundB n h N = true) : Calls Try.prog 23 #[.agg #[.slice (some ⟨b, off, none⟩) n c, .int .i64 h, .int .i64 N]] w fun e w' => (∃ v, e = .returned v ∧ OwnI w' w.heap.size v (ringL xs n h N)) ∧ Below w.heap.size w w' := by
  obtain ⟨hn9, h0, h1', N0, N1⟩ := sound_iff.1 hs
  have h1 : h < n := by omega
  have hnm : n ≤ 9223372036854775807 := by omega
  obtain ⟨L, hL⟩ : ∃ L, ringL xs n h N = L := ⟨_, rfl⟩
  have hll := ring_len (xs := xs) hs
  rw [hL] at hll ⊢
  have HTK := Lib.hid (fun k (hk : k < N.toNat) => ring_take (xs := xs) hs hk)
  rw [hL] at HTK
  have HLL := Lib.hid hll
  have HCS := Lib.hid hc
  clear hll hc h1' hL
  have HA : Hid ((w.alloc (.cells #[.slice (some ⟨b, off, none⟩) n c, .int .i64 h, .int .i64 N] 26)).heap[w.heap.size]? = some (.cells #[.slice (some ⟨b, off, none⟩) n c, .int .i64 h, .int .i64 N] 26 (0, 0))) := newA w _
  have HB := keepBa (startB w) (.cells #[.slice (some ⟨b, off, none⟩) n c, .int .i64 h, .int .i64 N] 26)
  go_enter Try.func23, Try.ntmps23
  go_wp2_with (first | (go_at_call 43; refine (sound_any _ _ _ _ _ _ hnm).mono ?_; rintro e w1 ⟨rfl, hb⟩; replace HA := keepA HA hb; replace HB := keepB HB hb; (try clear c0 c1 c2); have c0 := (cellA HA 0).trans rfl; have c1 := (cellA HA 1).trans rfl; have c2 := (cellA HA 2).trans rfl; clear hb) | (refine rowLoad rfl 26 _ rfl _ rfl HA.out Try.underlying26 rfl infoFree ?_))
  go_loopw [4, 13] (fun o i wr => ∃ (k : Nat) (ys : List Int), k ≤ N.toNat ∧ i = .int .i64 k ∧ ys.length = k ∧ Hid (ys = L.take k) ∧ Hid (OwnI wr (w.heap.size + 1) o ys) ∧ Hid (wr.heap[w.heap.size]? = some (.cells #[.slice (some ⟨b, off, none⟩) n c, .int .i64 h, .int .i64 N] 26 (0, 0))) ∧ Hid (Below w.heap.size w wr ∧ w.heap.size ≤ wr.heap.size)) (fun _ i _ => N.toNat - (intOf i).toNat)
  case atStart => exact ⟨0, [], Nat.zero_le _, rfl, rfl, Lib.hid rfl, Lib.hid (own_nil _ _ _), HA, HB⟩
  case round =>
    clear HA HB
    obtain ⟨k, ys, hk, rfl, hyl, HY, HO, HA, HB⟩ := hrel
    (try clear c0 c1 c2); have c0 := (cellA HA 0).trans rfl; have c1 := (cellA HA 1).trans rfl; have c2 := (cellA HA 2).trans rfl
    by_cases hlt : k < N.toNat
    · obtain ⟨b0, b1⟩ := atZ_bounds h (k : Int) hn0
      obtain ⟨J, hJ⟩ := Int.eq_ofNat_of_zero_le b0
      obtain ⟨E, hE⟩ : ∃ E, el xs J = E := ⟨_, rfl⟩
      have hJn : J < n := by omega
      have HE0 := Lib.hid (HCS.out J hJn)
      rw [hE] at HE0
      have HE := Lib.hid (cellB HB.out.1 HE0.out)
      have HJZ := Lib.hid hJ
      have HY2 : Hid (ys ++ [E] = L.take (k + 1)) := Lib.hid (by rw [HTK.out k hlt, HY.out, ← hE, hJ]; rfl)
      have HSZ : Hid (w.heap.size + 1 ≤ wr.heap.size) := Lib.hid (Array.getElem?_eq_some_iff.1 HA.out).1
      have hN : (k : Int) < N := by omega
      clear b0 b1 hJ hE
      go_wp2
      replace HA := keepA1 HA
      replace HB := keepB1 HB
      replace HO : Hid (OwnI wr.drew (w.heap.size + 1) _ ys) := HO
      replace HSZ : Hid (w.heap.size + 1 ≤ wr.drew.heap.size) := HSZ
      refine rgStart (S := (fun w' => w'.heap[w.heap.size]? = some (.cells #[.slice (some ⟨b, off, none⟩) n c, .int .i64 h, .int .i64 N] 26 (0, 0)) ∧ w'.cell? ⟨b, off + J, none⟩ = some (.int .i64 E))) (n := 11) #[false, false, false, false, false, false, false, false, false, false, false] (by kernel_rfl) rfl rfl ⟨HA.out, HE.out⟩ (fun hHeld => ?_)
      refine rgTake (i := 0) (N := some 16) (oi := { dst := some 16, op := Op.move (Operand.tmp 4), type := 24, pos := "freel.go:79", after := #[], guard := none }) (v := ?_) #[true, false, false, false, false, false, false, false, false, false, false] rfl rfl (by kernel_rfl) (fun _ _ _ h => h) (Or.inl ⟨by rfl, ?_⟩) hHeld ?_
      rotate_left
      · intro w' hSw; (try dsimp only at hSw); (have s0 := (cell_of_row _ _ 0 _ _ _ hSw.1).trans rfl; have s2 := (cell_of_row _ _ 1 _ _ _ hSw.1).trans rfl; have s1 := hSw.2); go_simp; try with_reducible rfl
      simp only [Act.put, List.setIfInBounds_toArray, List.set_cons_zero, List.set_cons_succ]
      refine rgTake (i := 1) (N := some 17) (oi := { dst := some 17, op := Op.fieldAddr 26 (Operand.tmp 1) 0, type := 0, pos := "freel.go:79", after := #[], guard := none }) (v := ?_) #[true, true, false, false, false, false, false, false, false, false, false] rfl rfl (by kernel_rfl) (fun _ _ _ h => h) (Or.inl ⟨by rfl, ?_⟩) hHeld ?_
      rotate_left
      · intro w' hSw; (try dsimp only at hSw); (have s0 := (cell_of_row _ _ 0 _ _ _ hSw.1).trans rfl; have s2 := (cell_of_row _ _ 1 _ _ _ hSw.1).trans rfl; have s1 := hSw.2); go_simp; try with_reducible rfl
      simp only [Act.put, List.setIfInBounds_toArray, List.set_cons_zero, List.set_cons_succ]
      refine rgTake (i := 2) (N := some 18) (oi := { dst := some 18, op := Op.load 24 (Operand.tmp 17), type := 24, pos := "freel.go:79", after := #[{ on := 1, ground := Ground.data }], guard := none }) (v := ?_) #[true, true, true, false, false, false, false, false, false, false, false] rfl rfl (by kernel_rfl) (fun _ _ _ h => h) (Or.inl ⟨by rfl, ?_⟩) hHeld ?_
      rotate_left
      · intro w' hSw; (try dsimp only at hSw); (have s0 := (cell_of_row _ _ 0 _ _ _ hSw.1).trans rfl; have s2 := (cell_of_row _ _ 1 _ _ _ hSw.1).trans rfl; have s1 := hSw.2); go_simp; try with_reducible rfl
      simp only [Act.put, List.setIfInBounds_toArray, List.set_cons_zero, List.set_cons_succ]
      refine rgTake (i := 3) (N := some 19) (oi := { dst := some 19, op := Op.move (Operand.tmp 3), type := 76, pos := "freel.go:79", after := #[], guard := none }) (v := ?_) #[true, true, true, true, false, false, false, false, false, false, false] rfl rfl (by kernel_rfl) (fun _ _ _ h => h) (Or.inl ⟨by rfl, ?_⟩) hHeld ?_
      rotate_left
      · intro w' hSw; (try dsimp only at hSw); (have s0 := (cell_of_row _ _ 0 _ _ _ hSw.1).trans rfl; have s2 := (cell_of_row _ _ 1 _ _ _ hSw.1).trans rfl; have s1 := hSw.2); go_simp; try with_reducible rfl
      simp only [Act.put, List.setIfInBounds_toArray, List.set_cons_zero, List.set_cons_succ]
      refine rgTake (i := 4) (N := some 20) (oi := { dst := some 20, op := Op.move (Operand.tmp 5), type := 3, pos := "freel.go:79", after := #[], guard := none }) (v := ?_) #[true, true, true, true, true, false, false, false, false, false, false] rfl rfl (by kernel_rfl) (fun _ _ _ h => h) (Or.inl ⟨by rfl, ?_⟩) hHeld ?_
      rotate_left
      · intro w' hSw; (try dsimp only at hSw); (have s0 := (cell_of_row _ _ 0 _ _ _ hSw.1).trans rfl; have s2 := (cell_of_row _ _ 1 _ _ _ hSw.1).trans rfl; have s1 := hSw.2); go_simp; try with_reducible rfl
      simp only [Act.put, List.setIfInBounds_toArray, List.set_cons_zero, List.set_cons_succ]
      refine rgCall (i := 5) (N := some 21) (oi := { dst := some 21, op := Op.call { callee := Callee.value (Operand.tmp 19), args := #[Operand.tmp 20], argTypes := #[3] }, type := 3, pos := "freel.go:79", after := #[{ on := 3, ground := Ground.data }, { on := 4, ground := Ground.data }], guard := none }) #[true, true, true, true, true, true, false, false, false, false, false] rfl rfl (by kernel_rfl) (fun K hK => ?_)
      (go_simp; go_at_call 44; refine (at_any (some ⟨b, off, none⟩) n c h N k _ hn0 hn9 h0 h1 (by omega) (by omega)).mono ?_; rintro e w1 ⟨rfl, hb⟩; rw [HJZ.out]; replace HA := keepA HA hb; replace HB := keepB HB hb; (try clear c0 c1 c2); have c0 := (cellA HA 0).trans rfl; have c1 := (cellA HA 1).trans rfl; have c2 := (cellA HA 2).trans rfl; replace HO := Lib.hid (own_below HO.out hb); replace HSZ := Lib.hid (Nat.le_trans HSZ.out hb.size))
      refine hK.out _ _ (by first | exact ⟨(keepA (Lib.hid hHeld.out.1) hb).out, (hb.cell (World.block_lt_of_cell? _ _ hHeld.out.2)).trans hHeld.out.2⟩ | exact ⟨HA.out, cellB HB.out.1 HE0.out⟩) (fun hHeld => ?_)
      (try simp only [Act.put, List.setIfInBounds_toArray, List.set_cons_zero, List.set_cons_succ])
      clear hK K
      refine rgTake (i := 6) (N := some 22) (oi := { dst := some 22, op := Op.indexAddr 24 (Operand.tmp 18) (Operand.tmp 21), type := 0, pos := "freel.go:79", after := #[{ on := 2, ground := Ground.data }, { on := 5, ground := Ground.data }], guard := none }) (v := ?_) #[true, true, true, true, true, true, true, false, false, false, false] rfl rfl (by kernel_rfl) (fun _ _ _ h => h) (Or.inl ⟨by rfl, ?_⟩) hHeld ?_
      rotate_left
      · intro w' hSw; (try dsimp only at hSw); (have s0 := (cell_of_row _ _ 0 _ _ _ hSw.1).trans rfl; have s2 := (cell_of_row _ _ 1 _ _ _ hSw.1).trans rfl; have s1 := hSw.2); go_simp; try with_reducible rfl
      simp only [Act.put, List.setIfInBounds_toArray, List.set_cons_zero, List.set_cons_succ]
      refine rgTake (i := 7) (N := some 23) (oi := { dst := some 23, op := Op.load 3 (Operand.tmp 22), type := 3, pos := "freel.go:79", after := #[{ on := 6, ground := Ground.data }], guard := none }) (v := ?_) #[true, true, true, true, true, true, true, true, false, false, false] rfl rfl (by kernel_rfl) (fun _ _ _ h => h) (Or.inl ⟨by rfl, ?_⟩) hHeld ?_
      rotate_left
      · intro w' hSw; (try dsimp only at hSw); (have s0 := (cell_of_row _ _ 0 _ _ _ hSw.1).trans rfl; have s2 := (cell_of_row _ _ 1 _ _ _ hSw.1).trans rfl; have s1 := hSw.2); go_simp; try with_reducible rfl
      simp only [Act.put, List.setIfInBounds_toArray, List.set_cons_zero, List.set_cons_succ]
      refine rgCall (i := 8) (N := some 24) (oi := { dst := some 24, op := Op.buildSlice 24 1 #[(0, Operand.tmp 23)], type := 24, pos := "freel.go:79", after := #[{ on := 7, ground := Ground.data }], guard := none }) #[true, true, true, true, true, true, true, true, true, false, false] rfl rfl (by kernel_rfl) (fun K hK => ?_)
      (clear hb; go_simp; replace HA := keepAa HA (.cells #[.int .i64 E] 3); replace HB := keepBa HB (.cells #[.int .i64 E] 3))
      refine hK.out _ _ (by first | exact ⟨(keepA (Lib.hid hHeld.out.1) hb).out, (hb.cell (World.block_lt_of_cell? _ _ hHeld.out.2)).trans hHeld.out.2⟩ | exact ⟨HA.out, cellB HB.out.1 HE0.out⟩) (fun hHeld => ?_)
      (try simp only [Act.put, List.setIfInBounds_toArray, List.set_cons_zero, List.set_cons_succ])
      clear hK K
      refine rgCall (i := 9) (N := some 25) (oi := { dst := some 25, op := Op.call { callee := Callee.builtin Builtin.append, args := #[Operand.tmp 16, Operand.tmp 24], argTypes := #[24, 24] }, type := 24, pos := "freel.go:79", after := #[{ on := 0, ground := Ground.data }, { on := 8, ground := Ground.data }, { on := 5, ground := Ground.chain }], guard := none }) #[true, true, true, true, true, true, true, true, true, true, false] rfl rfl (by kernel_rfl) (fun K hK => ?_)
      (refine rgApp (by rfl) _ _ 24 3 (.int .i64 0) 8 rfl Try.underlying24 infoInt rfl (w.heap.size + 1) _ ys.length (ys.map (Value.int .i64)) rfl HO.out _ rfl _ rfl ?_ ?_ ?_ ?_; (unfold maxLen; omega); omega; exact HSZ.out; intro v2 w3 ho2 hb2; replace HO := Lib.hid (own_put ho2); replace HA := keepAg HA (Nat.lt_succ_self _) hb2; replace HB := keepBg HB (Nat.le_succ _) hb2; clear ho2 hb2)
      refine hK.out _ _ (by first | exact ⟨(keepA (Lib.hid hHeld.out.1) hb).out, (hb.cell (World.block_lt_of_cell? _ _ hHeld.out.2)).trans hHeld.out.2⟩ | exact ⟨HA.out, cellB HB.out.1 HE0.out⟩) (fun hHeld => ?_)
      (try simp only [Act.put, List.setIfInBounds_toArray, List.set_cons_zero, List.set_cons_succ])
      clear hK K
      refine rgTake (i := 10) (N := some 4) (oi := { dst := some 4, op := Op.assign (Operand.tmp 25), type := 24, pos := "freel.go:79", after := #[{ on := 9, ground := Ground.data }, { on := 9, ground := Ground.chain }, { on := 0, ground := Ground.phase }, { on := 1, ground := Ground.phase }, { on := 2, ground := Ground.phase }, { on := 3, ground := Ground.phase }, { on := 4, ground := Ground.phase }, { on := 5, ground := Ground.phase }, { on := 6, ground := Ground.phase }, { on := 7, ground := Ground.phase }, { on := 8, ground := Ground.phase }, { on := 9, ground := Ground.phase }], guard := none }) (v := ?_) #[true, true, true, true, true, true, true, true, true, true, true] rfl rfl (by kernel_rfl) (fun _ _ _ h => h) (Or.inl ⟨by rfl, ?_⟩) hHeld ?_
      rotate_left
      · intro w' hSw; (try dsimp only at hSw); (have s0 := (cell_of_row _ _ 0 _ _ _ hSw.1).trans rfl; have s2 := (cell_of_row _ _ 1 _ _ _ hSw.1).trans rfl; have s1 := hSw.2); go_simp; try with_reducible rfl
      simp only [Act.put, List.setIfInBounds_toArray, List.set_cons_zero, List.set_cons_succ]
      refine rgDone (by kernel_rfl) ?_ _
      go_wp2
      go_roundw
      case rel => exact ⟨k + 1, ys ++ [E], by omega, by go_num, by rw [List.length_append]; simp; omega, HY2, HO, HA, HB⟩
      case measure => simp [intOf]; omega
    · have hkN : k = N.toNat := by omega
      have hN : ¬ (k : Int) < N := by omega
      have HYL : Hid (ys = L) := Lib.hid (by rw [HY.out, List.take_of_length_le (by rw [HLL.out]; omega)])
      clear hkN
      go_wp2
      go_ret
      exact ⟨⟨_, rfl, by rw [← HYL.out]; exact own_weak HO.out (Nat.le_succ _)⟩, HB.out.1⟩
end Go.Proofs.Ytpgighhnhidpcaa.My
