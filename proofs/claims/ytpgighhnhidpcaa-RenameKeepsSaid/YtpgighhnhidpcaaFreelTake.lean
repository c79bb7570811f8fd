/- Walks over package freel and its reference: Take. -/
import Derived.Test.YtpgighhnhidpcaaFreelNew
namespace Go.Proofs.Ytpgighhnhidpcaa.My
open Go.RowKit

theorem start_z (w : World) (oA oZ : Obj) : Hid (((w.alloc oA).alloc oZ).heap[w.heap.size + 1]? = some oZ) := by
  have h := (newA (w.alloc oA) oZ).out
  simp only [World.size_alloc] at h
  exact h
theorem res3 {P : Program} {fn : Func} {p u v : Tmp} {ty : TypeId} (h : fn.results = #[.cell p ty, .tmp u, .tmp v]) (tmps : Array Value) (w : World) (g : Nat) (t : TypeId) (cs : Array Value) (fr : Nat × Nat) (d : TypeDesc)
    (hp : tmps.getD p undef = .pointer (some ⟨g, 0, none⟩)) (hg : w.heap[g]? = some (.cells cs t fr)) (hu : P.underlying ty = some d) (hd : d.isRow = true) (hi : (P.info? ty).map (·.size) = some cs.size) :
    (results fn tmps).run P w = .ok (.tuple #[.agg cs, tmps.getD u undef, tmps.getD v undef]) w := by
  have hp' : tmps[p]?.getD undef = .pointer (some ⟨g, 0, none⟩) := by simpa using hp
  have hl := run_loadVar_row (P := P) w g t ty cs fr d hg hu (by cases d <;> first | rfl | exact hd) hi
  simp [results, h, hp', asAddr, hl]
def TakePost (w w' : World) (n : Nat) (xs : List Int) (h N p : Int) (b : Bool) (e : Ending) : Prop :=
  ∃ A c, e = .returned (.tuple #[.agg #[.slice A n c, .int .i64 h, .int .i64 N], .int .i64 p, .bool b]) ∧ RdA .i64 w' A n xs ∧ Below w.heap.size w w'
def takeB (n : Nat) (h N : Int) : Bool := soundB n h N && decide (N ≠ 0)

set_option maxHeartbeats 1000000 in
theorem take_no (A : Option Addr) (n c : Nat) (h N : Int) (xs : List Int) (w : World) (hr : RdA .i64 w A n xs) (hnm : n ≤ 9223372036854775807) (ht : takeB n h N = false) : Calls Try.prog 34 #[.agg #[.slice A n c, .int .i64 h, .int .i64 N]] w fun e w' => TakePost w w' n xs h N 0 false e := by
  have HR := Lib.hid hr
  clear hr
  have HA : Hid (((w.alloc (.cells #[.slice A n c, .int .i64 h, .int .i64 N] 26)).alloc (.cells #[.slice none 0 0, .int .i64 0, .int .i64 0] 26)).heap[w.heap.size]? = some (.cells #[.slice A n c, .int .i64 h, .int .i64 N] 26 (0, 0))) := keepAa (newA w _) _; have HZ : Hid (((w.alloc (.cells #[.slice A n c, .int .i64 h, .int .i64 N] 26)).alloc (.cells #[.slice none 0 0, .int .i64 0, .int .i64 0] 26)).heap[w.heap.size + 1]? = some (.cells #[.slice none 0 0, .int .i64 0, .int .i64 0] 26 (0, 0))) := start_z w _ _; have HB := keepBa (keepBa (startB w) (.cells #[.slice A n c, .int .i64 h, .int .i64 N] 26)) (.cells #[.slice none 0 0, .int .i64 0, .int .i64 0] 26)
  cases hs : soundB n h N with
  | false =>
    clear ht
    go_enter Try.func34, Try.ntmps34
    go_wp2_with (first | (go_at_call 43; refine (sound_any _ _ _ _ _ _ hnm).mono ?_; rintro e w1 ⟨rfl, hb⟩; replace HA := keepA HA hb; replace HZ := keepA HZ hb; replace HB := keepB HB hb; (try clear c0 c1 c2); have c0 := (cellA HA 0).trans rfl; have c1 := (cellA HA 1).trans rfl; have c2 := (cellA HA 2).trans rfl; clear hb) | (refine rowLoad rfl 26 _ rfl _ rfl HA.out Try.underlying26 rfl infoFree ?_) | (refine rowStore rfl 26 _ _ rfl _ rfl _ rfl HZ.out infoFree (by rfl) (by simp [Value.oneCell']) ?_; intro w5 hz ho; replace HB := keepBo HB (by omega) ho; replace HA := keepAo HA (by omega) ho; clear HZ; have HZ := Lib.hid hz; (try clear c0 c1 c2); have c0 := (cellA HA 0).trans rfl; have c1 := (cellA HA 1).trans rfl; have c2 := (cellA HA 2).trans rfl; clear hz ho))
    exact bodyPost_ret (res3 rfl _ _ (w.heap.size + 1) 26 #[.slice A n c, .int .i64 h, .int .i64 N] (0, 0) _ rfl HZ.out Try.underlying26 rfl infoFree) rfl ⟨A, c, rfl, HR.out.below HB.out.1, HB.out.1⟩
  | true =>
    have hN : N = 0 := by simpa [takeB, hs] using ht
    have dN : (N == 0) = true := by rw [beq_iff_eq]; exact hN
    clear ht hN
    go_enter Try.func34, Try.ntmps34
    go_wp2_with (first | (go_at_call 43; refine (sound_any _ _ _ _ _ _ hnm).mono ?_; rintro e w1 ⟨rfl, hb⟩; replace HA := keepA HA hb; replace HZ := keepA HZ hb; replace HB := keepB HB hb; (try clear c0 c1 c2); have c0 := (cellA HA 0).trans rfl; have c1 := (cellA HA 1).trans rfl; have c2 := (cellA HA 2).trans rfl; clear hb) | (refine rowLoad rfl 26 _ rfl _ rfl HA.out Try.underlying26 rfl infoFree ?_) | (refine rowStore rfl 26 _ _ rfl _ rfl _ rfl HZ.out infoFree (by rfl) (by simp [Value.oneCell']) ?_; intro w5 hz ho; replace HB := keepBo HB (by omega) ho; replace HA := keepAo HA (by omega) ho; clear HZ; have HZ := Lib.hid hz; (try clear c0 c1 c2); have c0 := (cellA HA 0).trans rfl; have c1 := (cellA HA 1).trans rfl; have c2 := (cellA HA 2).trans rfl; clear hz ho))
    exact bodyPost_ret (res3 rfl _ _ (w.heap.size + 1) 26 #[.slice A n c, .int .i64 h, .int .i64 N] (0, 0) _ rfl HZ.out Try.underlying26 rfl infoFree) rfl ⟨A, c, rfl, HR.out.below HB.out.1, HB.out.1⟩

theorem take_bounds {n : Nat} {h N : Int} (ht : takeB n h N = true) : 0 < n ∧ n ≤ 96 ∧ 0 ≤ h ∧ h < n ∧ 0 < N ∧ N ≤ n ∧ soundB n h N = true ∧ (N == 0) = false := by
  unfold takeB at ht
  rw [Bool.and_eq_true, decide_eq_true_eq] at ht
  obtain ⟨hs, hN⟩ := ht
  obtain ⟨a, b, c, d, e⟩ := sound_iff.1 hs
  exact ⟨by omega, a, b, by omega, by omega, e, hs, by rw [beq_eq_false_iff_ne]; exact hN⟩

set_option maxHeartbeats 2000000 in
theorem take_yes (b off n c : Nat) (h N : Int) (xs : List Int) (w : World) (hl : xs.length = n) (hc : ∀ j, j < n → w.cell? ⟨b, off + j, none⟩ = some (.int .i64 (el xs j))) (ht : takeB n h N = true) : Calls Try.prog 34 #[.agg #[.slice (some ⟨b, off, none⟩) n c, .int .i64 h, .int .i64 N]] w fun e w' => TakePost w w' n xs (atZ n h 1) (N - 1) (el xs h.toNat) true e := by
  obtain ⟨hn0, hn9, h0, h1, N0, N1, hs, dN⟩ := take_bounds ht
  obtain ⟨A, hA⟩ : ∃ A : Option Addr, A = some ⟨b, off, none⟩ := ⟨_, rfl⟩
  have HR : Hid (RdA .i64 w A n xs) := ⟨hl, fun _ => ⟨b, off, hA, hc⟩⟩
  subst hA
  have hnm : n ≤ 9223372036854775807 := by omega
  have z0 : atZ n h 0 = h := by unfold atZ; rw [Int.add_zero]; exact Int.emod_eq_of_lt h0 h1
  have hE := hc h.toNat (by omega)
  have HE0 := Lib.hid hE
  clear hc hE ht hl
  have HA : Hid (((w.alloc (.cells #[.slice (some ⟨b, off, none⟩) n c, .int .i64 h, .int .i64 N] 26)).alloc (.cells #[.slice none 0 0, .int .i64 0, .int .i64 0] 26)).heap[w.heap.size]? = some (.cells #[.slice (some ⟨b, off, none⟩) n c, .int .i64 h, .int .i64 N] 26 (0, 0))) := keepAa (newA w _) _; have HZ : Hid (((w.alloc (.cells #[.slice (some ⟨b, off, none⟩) n c, .int .i64 h, .int .i64 N] 26)).alloc (.cells #[.slice none 0 0, .int .i64 0, .int .i64 0] 26)).heap[w.heap.size + 1]? = some (.cells #[.slice none 0 0, .int .i64 0, .int .i64 0] 26 (0, 0))) := start_z w _ _; have HB := keepBa (keepBa (startB w) (.cells #[.slice (some ⟨b, off, none⟩) n c, .int .i64 h, .int .i64 N] 26)) (.cells #[.slice none 0 0, .int .i64 0, .int .i64 0] 26)
  have HE : Hid (((w.alloc (.cells #[.slice (some ⟨b, off, none⟩) n c, .int .i64 h, .int .i64 N] 26)).alloc (.cells #[.slice none 0 0, .int .i64 0, .int .i64 0] 26)).cell? ⟨b, off + h.toNat, none⟩ = some (.int .i64 (el xs h.toNat))) := (HB.out.1.cell (World.block_lt_of_cell? w _ HE0.out)).trans HE0.out
  go_enter Try.func34, Try.ntmps34
  go_wp2_with (first | (go_at_call 43; refine (sound_any _ _ _ _ _ _ hnm).mono ?_; rintro e w1 ⟨rfl, hb⟩; have HE : Hid (w1.drew.cell? ⟨b, off + h.toNat, none⟩ = some (.int .i64 (el xs h.toNat))) := (hb.cell (World.block_lt_of_cell? _ _ HE.out)).trans HE.out; replace HA := keepA HA hb; replace HZ := keepA HZ hb; replace HB := keepB HB hb; (try clear c0 c1 c2); have c0 := (cellA HA 0).trans rfl; have c1 := (cellA HA 1).trans rfl; have c2 := (cellA HA 2).trans rfl; clear hb))
  replace HA := keepA1 HA
  replace HZ := keepA1 HZ
  replace HB := keepB1 HB
  refine rgStart (S := (fun w' => w'.heap[w.heap.size]? = some (.cells #[.slice (some ⟨b, off, none⟩) n c, .int .i64 h, .int .i64 N] 26 (0, 0)) ∧ w'.cell? ⟨b, off + h.toNat, none⟩ = some (.int .i64 (el xs h.toNat)))) (n := 7) #[false, false, false, false, false, false, false] (by kernel_rfl) rfl rfl ⟨HA.out, HE.out⟩ (fun hHeld => ?_)
  refine rgTake (i := 0) (N := some 18) (oi := { dst := some 18, op := Op.fieldAddr 26 (Operand.tmp 1) 0, type := 0, pos := "freel.go:38", after := #[], guard := none }) (v := ?_) #[true, false, false, false, false, false, false] rfl rfl (by kernel_rfl) (fun _ _ _ h => h) (Or.inl ⟨by rfl, ?_⟩) hHeld ?_
  rotate_left
  · intro w' hSw; (try dsimp only at hSw); (have s0 := (cell_of_row _ _ 0 _ _ _ hSw.1).trans rfl; have s1 := hSw.2); go_simp; try with_reducible rfl
  simp only [Act.put, List.setIfInBounds_toArray, List.set_cons_zero, List.set_cons_succ]
  refine rgTake (i := 1) (N := some 19) (oi := { dst := some 19, op := Op.load 24 (Operand.tmp 18), type := 24, pos := "freel.go:38", after := #[{ on := 0, ground := Ground.data }], guard := none }) (v := ?_) #[true, true, false, false, false, false, false] rfl rfl (by kernel_rfl) (fun _ _ _ h => h) (Or.inl ⟨by rfl, ?_⟩) hHeld ?_
  rotate_left
  · intro w' hSw; (try dsimp only at hSw); (have s0 := (cell_of_row _ _ 0 _ _ _ hSw.1).trans rfl; have s1 := hSw.2); go_simp; try with_reducible rfl
  simp only [Act.put, List.setIfInBounds_toArray, List.set_cons_zero, List.set_cons_succ]
  refine rgTake (i := 2) (N := some 20) (oi := { dst := some 20, op := Op.move (Operand.tmp 5), type := 76, pos := "freel.go:38", after := #[], guard := none }) (v := ?_) #[true, true, true, false, false, false, false] rfl rfl (by kernel_rfl) (fun _ _ _ h => h) (Or.inl ⟨by rfl, ?_⟩) hHeld ?_
  rotate_left
  · intro w' hSw; (try dsimp only at hSw); (have s0 := (cell_of_row _ _ 0 _ _ _ hSw.1).trans rfl; have s1 := hSw.2); go_simp; try with_reducible rfl
  simp only [Act.put, List.setIfInBounds_toArray, List.set_cons_zero, List.set_cons_succ]
  refine rgCall (i := 3) (N := some 21) (oi := { dst := some 21, op := Op.call { callee := Callee.value (Operand.tmp 20), args := #[Operand.const (Value.int IntKind.i64 0)], argTypes := #[3] }, type := 3, pos := "freel.go:38", after := #[{ on := 2, ground := Ground.data }], guard := none }) #[true, true, true, true, false, false, false] rfl rfl (by kernel_rfl) (fun K hK => ?_)
  (go_simp; go_at_call 44; refine (at_any (some ⟨b, off, none⟩) n c h N 0 _ hn0 hn9 h0 h1 (by omega) (by omega)).mono ?_; rintro e w1 ⟨rfl, hb⟩; replace HA := keepA HA hb; replace HZ := keepA HZ hb; replace HB := keepB HB hb; (try clear c0 c1 c2); have c0 := (cellA HA 0).trans rfl; have c1 := (cellA HA 1).trans rfl; have c2 := (cellA HA 2).trans rfl)
  refine hK.out _ _ ⟨(keepA (Lib.hid hHeld.out.1) hb).out, (hb.cell (World.block_lt_of_cell? _ _ hHeld.out.2)).trans hHeld.out.2⟩ (fun hHeld => ?_)
  (try simp only [Act.put, List.setIfInBounds_toArray, List.set_cons_zero, List.set_cons_succ])
  clear hK K
  refine rgTake (i := 4) (N := some 22) (oi := { dst := some 22, op := Op.indexAddr 24 (Operand.tmp 19) (Operand.tmp 21), type := 0, pos := "freel.go:38", after := #[{ on := 1, ground := Ground.data }, { on := 3, ground := Ground.data }], guard := none }) (v := ?_) #[true, true, true, true, true, false, false] rfl rfl (by kernel_rfl) (fun _ _ _ h => h) (Or.inl ⟨by rfl, ?_⟩) hHeld ?_
  rotate_left
  · intro w' hSw; (try dsimp only at hSw); (have s0 := (cell_of_row _ _ 0 _ _ _ hSw.1).trans rfl; have s1 := hSw.2); go_simp; try with_reducible rfl
  simp only [Act.put, List.setIfInBounds_toArray, List.set_cons_zero, List.set_cons_succ]
  refine rgTake (i := 5) (N := some 23) (oi := { dst := some 23, op := Op.load 3 (Operand.tmp 22), type := 3, pos := "freel.go:38", after := #[{ on := 4, ground := Ground.data }], guard := none }) (v := ?_) #[true, true, true, true, true, true, false] rfl rfl (by kernel_rfl) (fun _ _ _ h => h) (Or.inl ⟨by rfl, ?_⟩) hHeld ?_
  rotate_left
  · intro w' hSw; (try dsimp only at hSw); (have s0 := (cell_of_row _ _ 0 _ _ _ hSw.1).trans rfl; have s1 := hSw.2); go_simp; try with_reducible rfl
  simp only [Act.put, List.setIfInBounds_toArray, List.set_cons_zero, List.set_cons_succ]
  refine rgTake (i := 6) (N := some 6) (oi := { dst := some 6, op := Op.assign (Operand.tmp 23), type := 3, pos := "freel.go:38", after := #[{ on := 5, ground := Ground.data }, { on := 3, ground := Ground.chain }, { on := 0, ground := Ground.phase }, { on := 1, ground := Ground.phase }, { on := 2, ground := Ground.phase }, { on := 3, ground := Ground.phase }, { on := 4, ground := Ground.phase }, { on := 5, ground := Ground.phase }], guard := none }) (v := ?_) #[true, true, true, true, true, true, true] rfl rfl (by kernel_rfl) (fun _ _ _ h => h) (Or.inl ⟨by rfl, ?_⟩) hHeld ?_
  rotate_left
  · intro w' hSw; (try dsimp only at hSw); (have s0 := (cell_of_row _ _ 0 _ _ _ hSw.1).trans rfl; have s1 := hSw.2); go_simp; try with_reducible rfl
  simp only [Act.put, List.setIfInBounds_toArray, List.set_cons_zero, List.set_cons_succ]
  refine rgDone (by kernel_rfl) ?_ _
  go_wp2_with (first | (go_at_call 44; refine (at_any _ _ _ _ _ 1 _ hn0 hn9 h0 h1 (by omega) (by omega)).mono ?_; rintro e w1 ⟨rfl, hb⟩; replace HA := keepA HA hb; replace HZ := keepA HZ hb; replace HB := keepB HB hb; (try clear c0 c1 c2); have c0 := (cellA HA 0).trans rfl; have c1 := (cellA HA 1).trans rfl; have c2 := (cellA HA 2).trans rfl; clear hb) | (refine cellStore rfl 3 _ _ rfl w.heap.size 1 rfl (.int .i64 (atZ n h 1)) rfl rfl rfl HA.out (by simp) infoInt1 ?_; intro w3 ha ho; replace HB := keepBo HB (by omega) ho; replace HZ := keepAo HZ (by omega) ho; clear HA; have HA : Hid (w3.heap[w.heap.size]? = some (.cells #[.slice (some ⟨b, off, none⟩) n c, .int .i64 (atZ n h 1), .int .i64 N] 26 (0, 0))) := ha; (try clear c0 c1 c2); have c0 := (cellA HA 0).trans rfl; have c1 := (cellA HA 1).trans rfl; have c2 := (cellA HA 2).trans rfl; clear ha ho) | (refine cellStore rfl 3 _ _ rfl w.heap.size 2 rfl (.int .i64 (N - 1)) rfl rfl rfl HA.out (by simp) infoInt1 ?_; intro w3 ha ho; replace HB := keepBo HB (by omega) ho; replace HZ := keepAo HZ (by omega) ho; clear HA; have HA : Hid (w3.heap[w.heap.size]? = some (.cells #[.slice (some ⟨b, off, none⟩) n c, .int .i64 (atZ n h 1), .int .i64 (N - 1)] 26 (0, 0))) := ha; (try clear c0 c1 c2); have c0 := (cellA HA 0).trans rfl; have c1 := (cellA HA 1).trans rfl; have c2 := (cellA HA 2).trans rfl; clear ha ho) | (refine rowLoad rfl 26 _ rfl _ rfl HA.out Try.underlying26 rfl infoFree ?_) | (refine rowStore rfl 26 _ _ rfl _ rfl _ rfl HZ.out infoFree (by rfl) (by simp [Value.oneCell']) ?_; intro w5 hz ho; replace HB := keepBo HB (by omega) ho; replace HA := keepAo HA (by omega) ho; clear HZ; have HZ := Lib.hid hz; (try clear c0 c1 c2); have c0 := (cellA HA 0).trans rfl; have c1 := (cellA HA 1).trans rfl; have c2 := (cellA HA 2).trans rfl; clear hz ho))
  exact bodyPost_ret (res3 rfl _ _ (w.heap.size + 1) 26 #[.slice (some ⟨b, off, none⟩) n c, .int .i64 (atZ n h 1), .int .i64 (N - 1)] (0, 0) _ rfl HZ.out Try.underlying26 rfl infoFree) rfl ⟨_, c, rfl, HR.out.below HB.out.1, HB.out.1⟩

def tkH (n : Nat) (h N : Int) : Int := if takeB n h N = true then atZ n h 1 else h
def tkN (n : Nat) (h N : Int) : Int := if takeB n h N = true then N - 1 else N
def tkP (xs : List Int) (n : Nat) (h N : Int) : Int := if takeB n h N = true then el xs h.toNat else 0
theorem take_any (A : Option Addr) (n c : Nat) (h N : Int) (xs : List Int) (w : World) (hr : RdA .i64 w A n xs) (hnm : n ≤ 9223372036854775807) : Calls Try.prog 34 #[.agg #[.slice A n c, .int .i64 h, .int .i64 N]] w fun e w' => TakePost w w' n xs (tkH n h N) (tkN n h N) (tkP xs n h N) (takeB n h N) e := by
  cases ht : takeB n h N with
  | false =>
    have h1 := take_no A n c h N xs w hr hnm ht
    simpa only [tkH, tkN, tkP, ht, Bool.false_eq_true, if_false] using h1
  | true =>
    obtain ⟨hn0, _⟩ := take_bounds ht
    obtain ⟨b, off, rfl, hc⟩ := hr.2 hn0
    have h1 := take_yes b off n c h N xs w hr.1 hc ht
    simpa only [tkH, tkN, tkP, ht, if_true] using h1

set_option maxHeartbeats 1000000 in
theorem rtake_no (A : Option Addr) (n c : Nat) (h N : Int) (xs : List Int) (w : World) (hr : RdA .i64 w A n xs) (hnm : n ≤ 9223372036854775807) (ht : takeB n h N = false) : Calls Try.prog 37 #[.agg #[.slice A n c, .int .i64 h, .int .i64 N]] w fun e w' => TakePost w w' n xs h N 0 false e := by
  have HR := Lib.hid hr
  clear hr
  have HA : Hid (((w.alloc (.cells #[.slice A n c, .int .i64 h, .int .i64 N] 26)).alloc (.cells #[.slice none 0 0, .int .i64 0, .int .i64 0] 26)).heap[w.heap.size]? = some (.cells #[.slice A n c, .int .i64 h, .int .i64 N] 26 (0, 0))) := keepAa (newA w _) _; have HZ : Hid (((w.alloc (.cells #[.slice A n c, .int .i64 h, .int .i64 N] 26)).alloc (.cells #[.slice none 0 0, .int .i64 0, .int .i64 0] 26)).heap[w.heap.size + 1]? = some (.cells #[.slice none 0 0, .int .i64 0, .int .i64 0] 26 (0, 0))) := start_z w _ _; have HB := keepBa (keepBa (startB w) (.cells #[.slice A n c, .int .i64 h, .int .i64 N] 26)) (.cells #[.slice none 0 0, .int .i64 0, .int .i64 0] 26)
  cases hs : soundB n h N with
  | false =>
    clear ht
    go_enter Try.func37, Try.ntmps37
    go_wp2_with (first | (go_at_call 55; refine (is_any _ _ _ _ _ _ hnm).mono ?_; rintro e w1 ⟨rfl, hb⟩; replace HA := keepA HA hb; replace HZ := keepA HZ hb; replace HB := keepB HB hb; (try clear c0 c1 c2); have c0 := (cellA HA 0).trans rfl; have c1 := (cellA HA 1).trans rfl; have c2 := (cellA HA 2).trans rfl; clear hb) | (refine rowLoad rfl 26 _ rfl _ rfl HA.out Try.underlying26 rfl infoFree ?_) | (refine rowStore rfl 26 _ _ rfl _ rfl _ rfl HZ.out infoFree (by rfl) (by simp [Value.oneCell']) ?_; intro w5 hz ho; replace HB := keepBo HB (by omega) ho; replace HA := keepAo HA (by omega) ho; clear HZ; have HZ := Lib.hid hz; (try clear c0 c1 c2); have c0 := (cellA HA 0).trans rfl; have c1 := (cellA HA 1).trans rfl; have c2 := (cellA HA 2).trans rfl; clear hz ho))
    exact bodyPost_ret (res3 rfl _ _ (w.heap.size + 1) 26 #[.slice A n c, .int .i64 h, .int .i64 N] (0, 0) _ rfl HZ.out Try.underlying26 rfl infoFree) rfl ⟨A, c, rfl, HR.out.below HB.out.1, HB.out.1⟩
  | true =>
    have hN : N = 0 := by simpa [takeB, hs] using ht
    have dN : (N == 0) = true := by rw [beq_iff_eq]; exact hN
    clear ht hN
    go_enter Try.func37, Try.ntmps37
    go_wp2_with (first | (go_at_call 55; refine (is_any _ _ _ _ _ _ hnm).mono ?_; rintro e w1 ⟨rfl, hb⟩; replace HA := keepA HA hb; replace HZ := keepA HZ hb; replace HB := keepB HB hb; (try clear c0 c1 c2); have c0 := (cellA HA 0).trans rfl; have c1 := (cellA HA 1).trans rfl; have c2 := (cellA HA 2).trans rfl; clear hb) | (refine rowLoad rfl 26 _ rfl _ rfl HA.out Try.underlying26 rfl infoFree ?_) | (refine rowStore rfl 26 _ _ rfl _ rfl _ rfl HZ.out infoFree (by rfl) (by simp [Value.oneCell']) ?_; intro w5 hz ho; replace HB := keepBo HB (by omega) ho; replace HA := keepAo HA (by omega) ho; clear HZ; have HZ := Lib.hid hz; (try clear c0 c1 c2); have c0 := (cellA HA 0).trans rfl; have c1 := (cellA HA 1).trans rfl; have c2 := (cellA HA 2).trans rfl; clear hz ho))
    exact bodyPost_ret (res3 rfl _ _ (w.heap.size + 1) 26 #[.slice A n c, .int .i64 h, .int .i64 N] (0, 0) _ rfl HZ.out Try.underlying26 rfl infoFree) rfl ⟨A, c, rfl, HR.out.below HB.out.1, HB.out.1⟩

set_option maxHeartbeats 2000000 in
theorem rtake_yes (b off n c : Nat) (h N : Int) (xs : List Int) (w : World) (hl : xs.length = n) (hc : ∀ j, j < n → w.cell? ⟨b, off + j, none⟩ = some (.int .i64 (el xs j))) (ht : takeB n h N = true) : Calls Try.prog 37 #[.agg #[.slice (some ⟨b, off, none⟩) n c, .int .i64 h, .int .i64 N]] w fun e w' => TakePost w w' n xs (atZ n h 1) (N - 1) (el xs h.toNat) true e := by
  obtain ⟨hn0, hn9, h0, h1, N0, N1, hs, dN⟩ := take_bounds ht
  obtain ⟨A, hA⟩ : ∃ A : Option Addr, A = some ⟨b, off, none⟩ := ⟨_, rfl⟩
  have HR : Hid (RdA .i64 w A n xs) := ⟨hl, fun _ => ⟨b, off, hA, hc⟩⟩
  subst hA
  have hnm : n ≤ 9223372036854775807 := by omega
  have hE := hc h.toNat (by omega)
  have HE0 := Lib.hid hE
  clear hc hE ht hl
  have HA : Hid (((w.alloc (.cells #[.slice (some ⟨b, off, none⟩) n c, .int .i64 h, .int .i64 N] 26)).alloc (.cells #[.slice none 0 0, .int .i64 0, .int .i64 0] 26)).heap[w.heap.size]? = some (.cells #[.slice (some ⟨b, off, none⟩) n c, .int .i64 h, .int .i64 N] 26 (0, 0))) := keepAa (newA w _) _; have HZ : Hid (((w.alloc (.cells #[.slice (some ⟨b, off, none⟩) n c, .int .i64 h, .int .i64 N] 26)).alloc (.cells #[.slice none 0 0, .int .i64 0, .int .i64 0] 26)).heap[w.heap.size + 1]? = some (.cells #[.slice none 0 0, .int .i64 0, .int .i64 0] 26 (0, 0))) := start_z w _ _; have HB := keepBa (keepBa (startB w) (.cells #[.slice (some ⟨b, off, none⟩) n c, .int .i64 h, .int .i64 N] 26)) (.cells #[.slice none 0 0, .int .i64 0, .int .i64 0] 26)
  have HE : Hid (((w.alloc (.cells #[.slice (some ⟨b, off, none⟩) n c, .int .i64 h, .int .i64 N] 26)).alloc (.cells #[.slice none 0 0, .int .i64 0, .int .i64 0] 26)).cell? ⟨b, off + h.toNat, none⟩ = some (.int .i64 (el xs h.toNat))) := (HB.out.1.cell (World.block_lt_of_cell? w _ HE0.out)).trans HE0.out
  go_enter Try.func37, Try.ntmps37
  go_wp2_with (first | (go_at_call 55; refine (is_any _ _ _ _ _ _ hnm).mono ?_; rintro e w1 ⟨rfl, hb⟩; have hE : w1.cell? ⟨b, off + h.toNat, none⟩ = some (.int .i64 (el xs h.toNat)) := (hb.cell (World.block_lt_of_cell? _ _ HE.out)).trans HE.out; replace HA := keepA HA hb; replace HZ := keepA HZ hb; replace HB := keepB HB hb; (try clear c0 c1 c2); have c0 := (cellA HA 0).trans rfl; have c1 := (cellA HA 1).trans rfl; have c2 := (cellA HA 2).trans rfl; clear hb) | (go_at_call 56; refine (with_any _ _ _ _ _ _ _ xs _ (HR.out.below HB.out.1) hn9 (by omega)).mono ?_; rintro e wA ⟨A1, cA, rfl, hR1, hF1, hb⟩; have HF := Lib.hid (hF1.mono (show w.heap.size + 2 ≤ _ from (Array.getElem?_eq_some_iff.1 HZ.out).1)); replace HA := keepA HA hb; replace HZ := keepA HZ hb; replace HB := keepB HB hb; (try clear c0 c1 c2); have c0 := (cellA HA 0).trans rfl; have c1 := (cellA HA 1).trans rfl; have c2 := (cellA HA 2).trans rfl; have HR1 := Lib.hid hR1; have hwA : w.heap.size + 1 < wA.heap.size := (Array.getElem?_eq_some_iff.1 HZ.out).1; clear hb hR1 hF1) | (refine rowNew rfl 26 _ _ rfl rfl _ rfl infoFree (by rfl) (by simp [Value.oneCell']) ?_; intro wX hx hb; have HX := Lib.hid hx; replace HA := keepA HA hb; replace HZ := keepA HZ hb; replace HB := keepB HB hb; (try clear c0 c1 c2); have c0 := (cellA HA 0).trans rfl; have c1 := (cellA HA 1).trans rfl; have c2 := (cellA HA 2).trans rfl; have HL1 := Lib.hid HR1.out.lt; replace HR1 := Lib.hid (HR1.out.below hb); have hgA : wA.heap.size < wX.heap.size := (Array.getElem?_eq_some_iff.1 hx).1; (try clear x0 x1 x2); have x0 := (cellA HX 0).trans rfl; have x1 := (cellA HX 1).trans rfl; have x2 := (cellA HX 2).trans rfl; clear hb hx) | (refine cellStore rfl 3 _ _ rfl wA.heap.size 1 rfl (.int .i64 ((h + 1) % n)) rfl rfl rfl HX.out (by simp) infoInt1 ?_; intro w3 ha ho; replace HR1 := Lib.hid (HR1.out.only2 ho (fun a e1 e2 => Nat.ne_of_lt (HL1.out a e1 e2))); replace HA := keepAo HA (by omega) ho; replace HZ := keepAo HZ (by omega) ho; replace HB := keepBo HB (by omega) ho; clear HX; have HX : Hid (w3.heap[wA.heap.size]? = some (.cells #[.slice A1 n cA, .int .i64 ((h + 1) % n), .int .i64 N] 26 (0, 0))) := ha; (try clear c0 c1 c2); have c0 := (cellA HA 0).trans rfl; have c1 := (cellA HA 1).trans rfl; have c2 := (cellA HA 2).trans rfl; (try clear x0 x1 x2); have x0 := (cellA HX 0).trans rfl; have x1 := (cellA HX 1).trans rfl; have x2 := (cellA HX 2).trans rfl; clear ha ho) | (refine cellStore rfl 3 _ _ rfl wA.heap.size 2 rfl (.int .i64 (N - 1)) rfl rfl rfl HX.out (by simp) infoInt1 ?_; intro w4 ha ho; replace HR1 := Lib.hid (HR1.out.only2 ho (fun a e1 e2 => Nat.ne_of_lt (HL1.out a e1 e2))); replace HA := keepAo HA (by omega) ho; replace HZ := keepAo HZ (by omega) ho; replace HB := keepBo HB (by omega) ho; clear HX; have HX : Hid (w4.heap[wA.heap.size]? = some (.cells #[.slice A1 n cA, .int .i64 ((h + 1) % n), .int .i64 (N - 1)] 26 (0, 0))) := ha; (try clear c0 c1 c2); have c0 := (cellA HA 0).trans rfl; have c1 := (cellA HA 1).trans rfl; have c2 := (cellA HA 2).trans rfl; (try clear x0 x1 x2); have x0 := (cellA HX 0).trans rfl; have x1 := (cellA HX 1).trans rfl; have x2 := (cellA HX 2).trans rfl; clear ha ho) | (refine rowLoad rfl 26 _ rfl _ rfl HX.out Try.underlying26 rfl infoFree ?_) | (refine rowStore rfl 26 _ _ rfl _ rfl _ rfl HZ.out infoFree (by rfl) (by simp [Value.oneCell']) ?_; intro w5 hz ho; replace HR1 := Lib.hid (HR1.out.only2 ho (fun a e1 _ => by have := HF.out a e1; omega)); replace HB := keepBo HB (by omega) ho; replace HA := keepAo HA (by omega) ho; clear HZ; have HZ := Lib.hid hz; clear hz ho))
  exact bodyPost_ret (res3 rfl _ _ (w.heap.size + 1) 26 #[.slice A1 n cA, .int .i64 ((h + 1) % n), .int .i64 (N - 1)] (0, 0) _ rfl HZ.out Try.underlying26 rfl infoFree) rfl ⟨A1, cA, rfl, HR1.out, HB.out.1⟩
theorem rtake_any (A : Option Addr) (n c : Nat) (h N : Int) (xs : List Int) (w : World) (hr : RdA .i64 w A n xs) (hnm : n ≤ 9223372036854775807) : Calls Try.prog 37 #[.agg #[.slice A n c, .int .i64 h, .int .i64 N]] w fun e w' => TakePost w w' n xs (tkH n h N) (tkN n h N) (tkP xs n h N) (takeB n h N) e := by
  cases ht : takeB n h N with
  | false =>
    have h1 := rtake_no A n c h N xs w hr hnm ht
    simpa only [tkH, tkN, tkP, ht, Bool.false_eq_true, if_false] using h1
  | true =>
    obtain ⟨hn0, _⟩ := take_bounds ht
    obtain ⟨b, off, rfl, hc⟩ := hr.2 hn0
    have h1 := rtake_yes b off n c h N xs w hr.1 hc ht
    simpa only [tkH, tkN, tkP, ht, if_true] using h1

end Go.Proofs.Ytpgighhnhidpcaa.My
