/- Walks over package freel and its reference: rings in new memory. -/
import Derived.Test.YtpgighhnhidpcaaFreelWalks
namespace Go.Proofs.Ytpgighhnhidpcaa.My
open Go.RowKit

theorem infoFree : (Try.prog.info? 26).map (·.size) = some 3 := by kernel_rfl
theorem infoInt : (Try.prog.info? 3).map (fun i => (i.zero, i.size, i.bytes)) = some (some (.int .i64 0), 1, 8) := by kernel_rfl
theorem infoInt1 : (Try.prog.info? 3).map (·.size) = some 1 := by kernel_rfl

/-- A ring in new memory, with a place set. -/
def withR (xs : List Int) (at_ p : Int) : List Int := if 0 ≤ at_ then xs.set at_.toNat p else xs
def NewFree (w w' : World) (n : Nat) (xs : List Int) (h N : Int) (e : Ending) : Prop :=
  ∃ A c, e = .returned (.agg #[.slice A n c, .int .i64 h, .int .i64 N]) ∧ RdA .i64 w' A n xs ∧ Fresh w.heap.size A ∧ Below w.heap.size w w'

theorem splice_all (n : Nat) (ys : List Value) (h : ys.length = n) (z : Value) : splice (List.replicate n z) 0 ys = ys := by
  simp [splice, h]

theorem infoSl1 : (Try.prog.info? 24).map (·.size) = some 1 := by kernel_rfl
theorem after3a {w w2 : World} {oA oZ oM : Obj} (hb : Below (w.heap.size + 1 + 1) (((w.alloc oA).alloc oZ).alloc oM) w2) : Hid (w2.heap[w.heap.size]? = some oA) :=
  (hb.block _ (by omega)).trans (keepAa (keepAa (newA w oA) oZ) oM).out
theorem after3z {w w2 : World} {oA oZ oM : Obj} (hb : Below (w.heap.size + 1 + 1) (((w.alloc oA).alloc oZ).alloc oM) w2) : Hid (w2.heap[w.heap.size + 1]? = some oZ) := by
  have h := (keepAa (newA (w.alloc oA) oZ) oM).out
  simp only [World.size_alloc] at h
  exact (hb.block _ (by omega)).trans h
theorem after3b {w w2 : World} {oA oZ oM : Obj} (hb : Below (w.heap.size + 1 + 1) (((w.alloc oA).alloc oZ).alloc oM) w2) : Hid (Below w.heap.size w w2 ∧ w.heap.size ≤ w2.heap.size) := by
  have h := (keepBa (keepBa (keepBa (startB w) oA) oZ) oM).out
  exact ⟨h.1.trans (hb.mono (by omega)), Nat.le_trans h.2 hb.size⟩

set_option maxHeartbeats 1000000 in
theorem with_any (A : Option Addr) (n c : Nat) (h N at_ p : Int) (xs : List Int) (w : World) (hr : RdA .i64 w A n xs) (hn : n ≤ 96) (hat : at_ < n) : Calls Try.prog 56 #[.agg #[.slice A n c, .int .i64 h, .int .i64 N], .int .i64 at_, .int .i64 p] w fun e w' => NewFree w w' n (withR xs at_ p) h N e := by
  have hmk := run_make_row' (P := Try.prog) 24 3 (.int .i64 0) 8 Try.underlying24 infoInt rfl .i64 .i64 n (by omega) (by omega)
  have HR := Lib.hid hr
  have HW : Hid (RdA .i64 (((w.alloc (.cells #[.slice A n c, .int .i64 h, .int .i64 N] 26)).alloc (.cells #[.slice none 0 0, .int .i64 0, .int .i64 0] 26)).alloc (.cells (madeCells #[.int .i64 0] n) 3)) A n xs) := hr.below (((((Below.refl _ _).alloc (Nat.le_refl _) _).alloc (by simp) _)).alloc (by simp; omega) _)
  have HM : Hid ((((w.alloc (.cells #[.slice A n c, .int .i64 h, .int .i64 N] 26)).alloc (.cells #[.slice none 0 0, .int .i64 0, .int .i64 0] 26)).alloc (.cells (madeCells #[.int .i64 0] n) 3)).heap[w.heap.size + 1 + 1]? = some (.cells (List.replicate n (Value.int .i64 0)).toArray 3 (0, 0))) := by
    have h1 := (newA ((w.alloc (.cells #[.slice A n c, .int .i64 h, .int .i64 N] 26)).alloc (.cells #[.slice none 0 0, .int .i64 0, .int .i64 0] 26)) (.cells (madeCells #[.int .i64 0] n) 3)).out
    simp only [World.size_alloc] at h1
    rw [made_rep] at h1 ⊢
    exact h1
  have hl := hr.1
  clear hr
  by_cases c0 : 0 ≤ at_
  · have HJ : Hid (at_.toNat < (xs.map (Value.int .i64)).toArray.size) := by show _ < _; simp; omega
    have hw0 : withR xs at_ p = xs.set at_.toNat p := by unfold withR; rw [if_pos c0]
    rw [hw0]
    have HL := Lib.hid hl
    clear hl hw0
    go_enter Try.func56, Try.ntmps56
    go_wp2_with (first | (refine wpList_copy_splice rfl _ _ 24 24 rfl 3 Try.underlying24 infoInt1 _ _ _ _ _ _ rfl rfl (w.heap.size + 1 + 1) 0 (List.replicate n (Value.int .i64 0)) 3 HM.out (xs.map (Value.int .i64)) (by simp [HR.out.1]) (fun hp => ⟨rfl, HW.out.src hp⟩) (by simp [HR.out.1]) (ones_ma _ _) (w.heap.size + 1 + 1) (((w.alloc (.cells #[.slice A n c, .int .i64 h, .int .i64 N] 26)).alloc (.cells #[.slice none 0 0, .int .i64 0, .int .i64 0] 26)).alloc (.cells (madeCells #[.int .i64 0] n) 3)) (Below.refl _ _) (Nat.le_refl _) ?_; intro w2 HG hb2; rw [splice_all n _ (by simp [HR.out.1])] at HG; have HA := after3a hb2; have HZ := after3z hb2; have HB := after3b hb2; clear hb2) | (refine cellStore rfl 3 _ _ rfl (w.heap.size + 1 + 1) at_.toNat rfl (.int .i64 p) rfl rfl rfl HG.out HJ.out infoInt1 ?_; intro w3 hg ho; replace HB := keepBo HB (by omega) ho; replace HA := keepAo HA (by omega) ho; replace HZ := keepAo HZ (by omega) ho; clear HG; have HG := Lib.hid hg; clear hg ho) | (refine cellStore rfl 24 _ _ rfl w.heap.size 0 rfl (.slice (some ⟨w.heap.size + 1 + 1, 0, none⟩) n n) rfl rfl rfl HA.out (by simp) infoSl1 ?_; intro w4 ha ho; replace HB := keepBo HB (by omega) ho; replace HG := keepAo HG (by omega) ho; replace HZ := keepAo HZ (by omega) ho; clear HA; have HA : Hid (w4.heap[w.heap.size]? = some (.cells #[.slice (some ⟨w.heap.size + 1 + 1, 0, none⟩) n n, .int .i64 h, .int .i64 N] 26 (0, 0))) := ha; clear ha ho) | (refine rowLoad rfl 26 _ rfl _ rfl HA.out Try.underlying26 rfl infoFree ?_) | (refine rowStore rfl 26 _ _ rfl _ rfl _ rfl HZ.out infoFree (by rfl) (by simp [Value.oneCell']) ?_; intro w5 hz ho; replace HB := keepBo HB (by omega) ho; replace HG := keepAo HG (by omega) ho; clear HZ HA; have HZ := Lib.hid hz; clear hz ho))
    refine bodyPost_ret (results_cell_row rfl _ _ (w.heap.size + 1) 26 #[.slice (some ⟨w.heap.size + 1 + 1, 0, none⟩) n n, .int .i64 h, .int .i64 N] (0, 0) _ rfl HZ.out Try.underlying26 rfl infoFree) rfl ⟨some ⟨w.heap.size + 1 + 1, 0, none⟩, n, rfl, RdA.of_row (by rw [List.length_set]; exact HL.out) (by rw [← ma_set]; exact HG.out), fun a ha => ?_, HB.out.1⟩
    injection ha with ha
    rw [← ha]
    show _ ≤ w.heap.size + 1 + 1
    omega
  · have hw0 : withR xs at_ p = xs := by unfold withR; rw [if_neg c0]
    rw [hw0]
    have HL := Lib.hid hl
    clear hl hw0
    go_enter Try.func56, Try.ntmps56
    go_wp2_with (first | (refine wpList_copy_splice rfl _ _ 24 24 rfl 3 Try.underlying24 infoInt1 _ _ _ _ _ _ rfl rfl (w.heap.size + 1 + 1) 0 (List.replicate n (Value.int .i64 0)) 3 HM.out (xs.map (Value.int .i64)) (by simp [HR.out.1]) (fun hp => ⟨rfl, HW.out.src hp⟩) (by simp [HR.out.1]) (ones_ma _ _) (w.heap.size + 1 + 1) (((w.alloc (.cells #[.slice A n c, .int .i64 h, .int .i64 N] 26)).alloc (.cells #[.slice none 0 0, .int .i64 0, .int .i64 0] 26)).alloc (.cells (madeCells #[.int .i64 0] n) 3)) (Below.refl _ _) (Nat.le_refl _) ?_; intro w2 HG hb2; rw [splice_all n _ (by simp [HR.out.1])] at HG; have HA := after3a hb2; have HZ := after3z hb2; have HB := after3b hb2; clear hb2) | (refine cellStore rfl 24 _ _ rfl w.heap.size 0 rfl (.slice (some ⟨w.heap.size + 1 + 1, 0, none⟩) n n) rfl rfl rfl HA.out (by simp) infoSl1 ?_; intro w4 ha ho; replace HB := keepBo HB (by omega) ho; replace HG := keepAo HG (by omega) ho; replace HZ := keepAo HZ (by omega) ho; clear HA; have HA : Hid (w4.heap[w.heap.size]? = some (.cells #[.slice (some ⟨w.heap.size + 1 + 1, 0, none⟩) n n, .int .i64 h, .int .i64 N] 26 (0, 0))) := ha; clear ha ho) | (refine rowLoad rfl 26 _ rfl _ rfl HA.out Try.underlying26 rfl infoFree ?_) | (refine rowStore rfl 26 _ _ rfl _ rfl _ rfl HZ.out infoFree (by rfl) (by simp [Value.oneCell']) ?_; intro w5 hz ho; replace HB := keepBo HB (by omega) ho; replace HG := keepAo HG (by omega) ho; clear HZ HA; have HZ := Lib.hid hz; clear hz ho))
    refine bodyPost_ret (results_cell_row rfl _ _ (w.heap.size + 1) 26 #[.slice (some ⟨w.heap.size + 1 + 1, 0, none⟩) n n, .int .i64 h, .int .i64 N] (0, 0) _ rfl HZ.out Try.underlying26 rfl infoFree) rfl ⟨some ⟨w.heap.size + 1 + 1, 0, none⟩, n, rfl, RdA.of_row HL.out HG.out, fun a ha => ?_, HB.out.1⟩
    injection ha with ha
    rw [← ha]
    show _ ≤ w.heap.size + 1 + 1
    omega

theorem after2a {w w2 : World} {oA oZ : Obj} (hb : Below ((w.alloc oA).alloc oZ).heap.size ((w.alloc oA).alloc oZ) w2) : Hid (w2.heap[w.heap.size]? = some oA) :=
  (hb.block _ (by simp; omega)).trans (keepAa (newA w oA) oZ).out
theorem after2z {w w2 : World} {oA oZ : Obj} (hb : Below ((w.alloc oA).alloc oZ).heap.size ((w.alloc oA).alloc oZ) w2) : Hid (w2.heap[w.heap.size + 1]? = some oZ) := by
  have h := (newA (w.alloc oA) oZ).out
  simp only [World.size_alloc] at h
  exact (hb.block _ (by simp)).trans h
theorem after2b {w w2 : World} {oA oZ : Obj} (hb : Below ((w.alloc oA).alloc oZ).heap.size ((w.alloc oA).alloc oZ) w2) : Hid (Below w.heap.size w w2 ∧ w.heap.size ≤ w2.heap.size) := keepB (keepBa (keepBa (startB w) oA) oZ) hb
theorem after2g {w : World} {oA oZ : Obj} {g : Nat} (h : ((w.alloc oA).alloc oZ).heap.size ≤ g) : w.heap.size + 1 + 1 ≤ g := by simpa using h

set_option maxHeartbeats 1000000 in
theorem laid_any (A : Option Addr) (n c : Nat) (h N at_ p : Int) (xs : List Int) (w : World) (hr : RdA .i64 w A n xs) (hn0 : 0 < n) (hn : n ≤ 96) (hat : at_ < n) (h0 : 0 ≤ at_) (hN0 : 0 ≤ N) (hN : N ≤ 96) : Calls Try.prog 57 #[.agg #[.slice A n c, .int .i64 h, .int .i64 N], .int .i64 at_, .int .i64 p] w fun e w' => NewFree w w' n (xs.set at_.toNat p) h (N + 1) e := by
  have HW : Hid (RdA .i64 ((w.alloc (.cells #[.slice A n c, .int .i64 h, .int .i64 N] 26)).alloc (.cells #[.slice none 0 0, .int .i64 0, .int .i64 0] 26)) A n xs) := hr.below ((((Below.refl _ _).alloc (Nat.le_refl _) _).alloc (by simp) _))
  have HL := Lib.hid hr.1
  clear hr
  go_enter Try.func57, Try.ntmps57
  go_wp2_with (first | (refine appNil rfl _ _ 24 3 .i64 8 rfl Try.underlying24 infoInt rfl A n c xs rfl hn0 HW.out (by unfold maxLen; omega) (by omega) ?_; intro g cap cur w2 hB hg hsz hcur hb2; have HG := Lib.hid hg; have HC := Lib.hid hcur; have HA := after2a hb2; have HZ := after2z hb2; have HB := after2b hb2; have gB := after2g hB; clear hg hcur hb2 hB) | (refine cellStore rfl 24 _ _ rfl w.heap.size 0 rfl (.slice (some ⟨g, 0, none⟩) n cap) rfl rfl rfl HA.out (by simp) infoSl1 ?_; intro w3 ha ho; replace HB := keepBo HB (by omega) ho; replace HG := keepAo HG (by omega) ho; replace HZ := keepAo HZ (by omega) ho; clear HA; have HA : Hid (w3.heap[w.heap.size]? = some (.cells #[.slice (some ⟨g, 0, none⟩) n cap, .int .i64 h, .int .i64 N] 26 (0, 0))) := ha; have c0 := (cellA HA 0).trans rfl; have c2 := (cellA HA 2).trans rfl; clear ha ho) | (refine cellStore rfl 3 _ _ rfl g at_.toNat rfl (.int .i64 p) rfl rfl rfl HG.out (by omega) infoInt1 ?_; intro w4 hg ho; replace HB := keepBo HB (by omega) ho; replace HA := keepAo HA (by omega) ho; replace HZ := keepAo HZ (by omega) ho; clear HG c0 c2; have HG := Lib.hid hg; have c0 := (cellA HA 0).trans rfl; have c2 := (cellA HA 2).trans rfl; clear hg ho) | (refine cellStore rfl 3 _ _ rfl w.heap.size 2 rfl (.int .i64 (N + 1)) rfl rfl rfl HA.out (by simp) infoInt1 ?_; intro w5 ha ho; replace HB := keepBo HB (by omega) ho; replace HG := keepAo HG (by omega) ho; replace HZ := keepAo HZ (by omega) ho; clear HA c0 c2; have HA : Hid (w5.heap[w.heap.size]? = some (.cells #[.slice (some ⟨g, 0, none⟩) n cap, .int .i64 h, .int .i64 (N + 1)] 26 (0, 0))) := ha; clear ha ho) | (refine rowLoad rfl 26 _ rfl _ rfl HA.out Try.underlying26 rfl infoFree ?_) | (refine rowStore rfl 26 _ _ rfl _ rfl _ rfl HZ.out infoFree (by rfl) (by simp [Value.oneCell']) ?_; intro w5 hz ho; replace HB := keepBo HB (by omega) ho; replace HG := keepAo HG (by omega) ho; clear HZ HA; have HZ := Lib.hid hz; clear hz ho))
  refine bodyPost_ret (results_cell_row rfl _ _ (w.heap.size + 1) 26 #[.slice (some ⟨g, 0, none⟩) n cap, .int .i64 h, .int .i64 (N + 1)] (0, 0) _ rfl HZ.out Try.underlying26 rfl infoFree) rfl ⟨some ⟨g, 0, none⟩, cap, rfl, RdA.of_cur (by rw [List.length_set]; exact HL.out) HG.out (cur_set HC.out), fun a ha => ?_, HB.out.1⟩
  injection ha with ha
  rw [← ha]
  show _ ≤ g
  omega

end Go.Proofs.Ytpgighhnhidpcaa.My
