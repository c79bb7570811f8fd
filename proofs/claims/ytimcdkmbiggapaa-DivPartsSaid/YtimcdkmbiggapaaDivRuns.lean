/- Walks over package div and its reference: the runs, the operations, the chapter's examples. -/
import Derived.Test.YtimcdkmbiggapaaDivWalks
import Derived.Deep.LoopGhost
namespace Go.Proofs.Ytimcdkmbiggapaa.My
open Go.RowKit

theorem infoDiv : (Try.prog.info? 26).map (·.size) = some 5 := by kernel_rfl
theorem infoRef : (Try.prog.info? 24).map (·.size) = some 5 := by kernel_rfl
theorem ret_2 {a b a' b' : Value} (ha : a = a') (hb : b = b') : Ending.returned (.tuple #[a, b]) = .returned (.tuple #[a', b']) := by rw [ha, hb]

set_option maxHeartbeats 1000000 in
theorem run_any (s : DV) (w : World) (h : okD s) : Calls Try.prog 15 #[.agg #[.int .u32 s.n, .int .u32 s.d, .int .u32 s.q, .int .u32 s.r, .int .i64 s.l]] w fun e w' => e = .returned (.tuple #[.int .u32 (runD s).q, .int .u32 (runD s).r]) ∧ Below w.heap.size w w' := by
  obtain ⟨b0, b1⟩ := lf_bounds s.l
  have HOK := Lib.hid h
  clear h
  have HB0 := keepBa (startB w) (.cells #[.int .u32 s.n, .int .u32 s.d, .int .u32 s.q, .int .u32 s.r, .int .i64 s.l] 26)
  have HA0 : Hid ((w.alloc (.cells #[.int .u32 s.n, .int .u32 s.d, .int .u32 s.q, .int .u32 s.r, .int .i64 s.l] 26)).heap[w.heap.size]? = some (.cells #[.int .u32 s.n, .int .u32 s.d, .int .u32 s.q, .int .u32 s.r, .int .i64 s.l] 26 (0, 0))) := heap_alloc_new _ _
  go_enter Try.func15, Try.ntmps15
  go_wp2_with (go_at_call 19; refine (left_any _ _).mono ?_; rintro e w' ⟨rfl, rfl⟩)
  go_loopw [7] (fun i wr => ∃ k : Nat, k ≤ (lf s.l).toNat ∧ i = .int .i64 k ∧ Hid (wr.heap[w.heap.size]? = some (.cells #[.int .u32 (iterD k s).n, .int .u32 (iterD k s).d, .int .u32 (iterD k s).q, .int .u32 (iterD k s).r, .int .i64 (iterD k s).l] 26 (0, 0))) ∧ Hid (Below w.heap.size w wr ∧ w.heap.size ≤ wr.heap.size)) (fun i _ => (lf s.l).toNat - (intOf i).toNat)
  case atStart => exact ⟨0, Nat.zero_le _, rfl, HA0, HB0⟩
  case round =>
    clear HA0 HB0
    obtain ⟨k, hk, rfl, HA, HB⟩ := hrel
    have HO := Lib.hid (ok_iter HOK.out k)
    by_cases hlt : k < (lf s.l).toNat
    · go_wp2_with (first | (refine rowLoad rfl 26 _ rfl _ rfl HA.out Try.underlying26 rfl infoDiv ?_) | (refine rowStore rfl 26 _ _ rfl _ rfl _ rfl HA.out infoDiv (by rfl) (by simp [Value.oneCell']) ?_; intro w2 hA2 ho; replace HB := keepBo HB (Nat.le_refl _) ho; replace HA := Lib.hid hA2; clear hA2 ho) | (go_at_call 9; refine (step_any _ _ HO.out).mono ?_; rintro e w1 ⟨rfl, hb⟩; replace HA := keepA HA hb; replace HB := keepB HB hb; clear hb))
      go_roundw
      case rel => exact ⟨k + 1, by omega, by go_num, HA, HB⟩
      case measure => simp [intOf]; omega
    · have HK := Lib.hid (show k = (lf s.l).toNat by omega)
      have c2 : wr.cell? ⟨w.heap.size, 2, none⟩ = some (.int .u32 (iterD k s).q) := (cellA HA 2).trans rfl
      have c3 : wr.cell? ⟨w.heap.size, 3, none⟩ = some (.int .u32 (iterD k s).r) := (cellA HA 3).trans rfl
      go_wp2
      go_region
      go_wp2
      go_ret2
      exact ⟨ret_2 (by rw [HK.out]; rfl) (by rw [HK.out]; rfl), (keepB1 HB).out.1⟩

/-- With the bits that are left brought between 0 and 32. -/
def cutD (s : DV) : DV := ⟨s.n, s.d, s.q, s.r, lf s.l⟩
theorem lf_lf (n : Int) : lf (lf n) = lf n := by unfold lf; omega
theorem step_cut (s : DV) : stepD (cutD s) = stepD s := by
  unfold stepD cutD
  simp only [lf_lf]
theorem iter_cut (s : DV) : ∀ k, (iterD k (cutD s)).q = (iterD k s).q ∧ (iterD k (cutD s)).r = (iterD k s).r ∧ (0 < k → iterD k (cutD s) = iterD k s)
  | 0 => ⟨rfl, rfl, fun h => absurd h (Nat.lt_irrefl 0)⟩
  | 1 => by
    have h : iterD 1 (cutD s) = iterD 1 s := step_cut s
    exact ⟨by rw [h], by rw [h], fun _ => h⟩
  | k + 2 => by
    have h : iterD (k + 2) (cutD s) = iterD (k + 2) s := congrArg stepD ((iter_cut s (k + 1)).2.2 (by omega))
    exact ⟨by rw [h], by rw [h], fun _ => h⟩
theorem iter_l (s : DV) : ∀ k : Nat, k ≤ (lf s.l).toNat → (iterD k (cutD s)).l = lf s.l - k
  | 0, _ => by show lf s.l = _; simp
  | k + 1, hk => by
    have h := iter_l s k (by omega)
    have hb := lf_bounds s.l
    show (stepD (iterD k (cutD s))).l = _
    have h2 : lf (lf s.l - (k : Int)) = lf s.l - k := lf_in (by omega) (by omega)
    rw [step_l, h, h2, if_neg (by omega)]
    omega
theorem ok_cut {s : DV} (h : okD s) : okD (cutD s) := h

set_option maxHeartbeats 1000000 in
theorem rrun_any (s : DV) (w : World) (h : okD s) : Calls Try.prog 16 #[.agg #[.int .u32 s.n, .int .u32 s.d, .int .u32 s.q, .int .u32 s.r, .int .i64 s.l]] w fun e w' => e = .returned (.tuple #[.int .u32 (runD s).q, .int .u32 (runD s).r]) ∧ Below w.heap.size w w' := by
  obtain ⟨b0, b1⟩ := lf_bounds s.l
  have HOK := Lib.hid (ok_cut h)
  clear h
  have HB0 := keepBa (startB w) (.cells #[.int .u32 s.n, .int .u32 s.d, .int .u32 s.q, .int .u32 s.r, .int .i64 (lf s.l)] 24)
  have HA0 : Hid ((w.alloc (.cells #[.int .u32 s.n, .int .u32 s.d, .int .u32 s.q, .int .u32 s.r, .int .i64 (lf s.l)] 24)).heap[w.heap.size]? = some (.cells #[.int .u32 s.n, .int .u32 s.d, .int .u32 s.q, .int .u32 s.r, .int .i64 (lf s.l)] 24 (0, 0))) := heap_alloc_new _ _
  go_enter Try.func16, Try.ntmps16
  go_wp2_with (go_at_call 20; refine (rleft_any _ _).mono ?_; rintro e w' ⟨rfl, rfl⟩)
  go_loopg [] ((lf s.l).toNat) (fun g wr => ∃ k : Nat, g + k = (lf s.l).toNat ∧ Hid (wr.heap[w.heap.size]? = some (.cells #[.int .u32 (iterD k (cutD s)).n, .int .u32 (iterD k (cutD s)).d, .int .u32 (iterD k (cutD s)).q, .int .u32 (iterD k (cutD s)).r, .int .i64 (iterD k (cutD s)).l] 24 (0, 0))) ∧ Hid (Below w.heap.size w wr ∧ w.heap.size ≤ wr.heap.size))
  case atStart => exact ⟨0, by omega, HA0, HB0⟩
  case round =>
    clear HA0 HB0
    obtain ⟨k, hk, HA, HB⟩ := hrel
    have HO := Lib.hid (ok_iter HOK.out k)
    have hl := iter_l s k (by omega)
    have c4 : wr.cell? ⟨w.heap.size, 4, none⟩ = some (.int .i64 (iterD k (cutD s)).l) := (cellA HA 4).trans rfl
    by_cases hlt : k < (lf s.l).toNat
    · have hp : 0 < (iterD k (cutD s)).l := by rw [hl]; omega
      have HK := Lib.hid hk
      clear hl hk
      go_wp2_with (first | (refine rowLoad rfl 24 _ rfl _ rfl HA.out Try.underlying24 rfl infoRef ?_) | (refine rowStore rfl 24 _ _ rfl _ rfl _ rfl HA.out infoRef (by rfl) (by simp [Value.oneCell']) ?_; intro w2 hA2 ho; replace HB := keepBo HB (Nat.le_refl _) ho; replace HA := Lib.hid hA2; clear hA2 ho) | (go_at_call 11; refine (rstep_any _ _ HO.out).mono ?_; rintro e w1 ⟨rfl, hb⟩; replace HA := keepA HA hb; replace HB := keepB HB hb; clear hb))
      have hk := HK.out
      go_roundg (gk - 1)
      case measure => omega
      case rel => exact ⟨k + 1, by omega, HA, HB⟩
    · have hp : (iterD k (cutD s)).l ≤ 0 := by rw [hl]; omega
      have HK := Lib.hid (show k = (lf s.l).toNat by omega)
      clear hl hk
      have c2 : wr.cell? ⟨w.heap.size, 2, none⟩ = some (.int .u32 (iterD k (cutD s)).q) := (cellA HA 2).trans rfl
      have c3 : wr.cell? ⟨w.heap.size, 3, none⟩ = some (.int .u32 (iterD k (cutD s)).r) := (cellA HA 3).trans rfl
      go_wp2
      go_region
      go_wp2
      go_ret2
      exact ⟨ret_2 (ret_u (by rw [HK.out]; exact (iter_cut s _).1)) (ret_u (by rw [HK.out]; exact (iter_cut s _).2.1)), (keepB1 HB).out.1⟩

theorem new_any (a b : Int) (w : World) : Calls Try.prog 12 #[.int .u32 a, .int .u32 b] w fun e w' => e = .returned (.agg #[.int .u32 a, .int .u32 b, .int .u32 0, .int .u32 0, .int .i64 32]) ∧ Below w.heap.size w w' := by
  go_enter Try.func12, Try.ntmps12
  go_wp2
  refine bodyPost_ret (results_cell_row rfl _ _ w.heap.size 26 _ (0, 0) _ rfl (heap_alloc_new _ _) Try.underlying26 rfl infoDiv) rfl ⟨rfl, (Below.refl _ _).alloc (Nat.le_refl _) _⟩
theorem rnew_any (a b : Int) (w : World) : Calls Try.prog 13 #[.int .u32 a, .int .u32 b] w fun e w' => e = .returned (.agg #[.int .u32 a, .int .u32 b, .int .u32 0, .int .u32 0, .int .i64 32]) ∧ Below w.heap.size w w' := by
  go_enter Try.func13, Try.ntmps13
  go_wp2
  refine bodyPost_ret (results_cell_row rfl _ _ w.heap.size 24 _ (0, 0) _ rfl (heap_alloc_new _ _) Try.underlying24 rfl infoRef) rfl ⟨rfl, (Below.refl _ _).alloc (Nat.le_refl _) _⟩
theorem of_any (n d q r l : Int) (w : World) : Calls Try.prog 8 #[.agg #[.int .u32 n, .int .u32 d, .int .u32 q, .int .u32 r, .int .i64 l]] w fun e w' => e = .returned (.agg #[.int .u32 n, .int .u32 d, .int .u32 q, .int .u32 r, .int .i64 l]) ∧ Below w.heap.size w w' := by
  go_enter Try.func8, Try.ntmps8
  go_wp2
  refine bodyPost_ret (results_cell_row rfl _ _ (w.heap.size + 1) 24 _ (0, 0) _ rfl (heap_alloc2_new _ _ _) Try.underlying24 rfl infoRef) rfl ⟨rfl, ((Below.refl _ _).alloc (Nat.le_refl _) _).alloc (by simp) _⟩
theorem to_any (n d q r l : Int) (w : World) : Calls Try.prog 10 #[.agg #[.int .u32 n, .int .u32 d, .int .u32 q, .int .u32 r, .int .i64 l]] w fun e w' => e = .returned (.agg #[.int .u32 n, .int .u32 d, .int .u32 q, .int .u32 r, .int .i64 l]) ∧ Below w.heap.size w w' := by
  go_enter Try.func10, Try.ntmps10
  go_wp2
  refine bodyPost_ret (results_cell_row rfl _ _ (w.heap.size + 1) 26 _ (0, 0) _ rfl (heap_alloc2_new _ _ _) Try.underlying26 rfl infoDiv) rfl ⟨rfl, ((Below.refl _ _).alloc (Nat.le_refl _) _).alloc (by simp) _⟩

/-- How far a word with a sign is from 0. -/
def awayZ (a : Int) : Int := if 2147483648 ≤ a then 4294967296 - a else a
theorem away_any (a : Int) (w : World) (h0 : 0 ≤ a) (h1 : a < 4294967296) : Calls Try.prog 22 #[.int .u32 a] w fun e w' => e = .returned (.int .u32 (awayZ a)) ∧ w = w' := by
  by_cases c : 2147483648 ≤ a
  · have hw : wrap32 a = a - 4294967296 := by unfold wrap32; omega
    go_enter Try.func22, Try.ntmps22
    go_wp2
    go_ret
    exact ⟨ret_int (by unfold awayZ; rw [if_pos c]; omega), rfl⟩
  · have hw : wrap32 a = a := by unfold wrap32; omega
    go_enter Try.func22, Try.ntmps22
    go_wp2
    go_ret
    exact ⟨ret_int (by unfold awayZ; rw [if_neg (by omega)]), rfl⟩

end Go.Proofs.Ytimcdkmbiggapaa.My
