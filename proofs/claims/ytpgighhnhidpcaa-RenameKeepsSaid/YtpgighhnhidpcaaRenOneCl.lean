/- The closure that counts one: what it does to the counts and to the mark. -/
import Derived.Test.YtpgighhnhidpcaaRenRightPlain
set_option linter.unusedSimpArgs false
set_option linter.unusedVariables false
namespace Go.Proofs.Ytpgighhnhidpcaa.My
open Go.RowKit
/-- The counts of the numbers 1 .. n-1 among P, laid in 96 places. -/
def tmL (n : Int) (P : List Int) : List Int := (List.range 96).map fun (p : Nat) => if 1 ≤ p ∧ (p : Int) < n then (P.count (p : Int) : Int) else 0
theorem tmL_len (n : Int) (P : List Int) : (tmL n P).length = 96 := by simp [tmL]
theorem tmL_at {n : Int} {P : List Int} {p : Nat} (h1 : 1 ≤ p) (h2 : (p : Int) < n) (h9 : n ≤ 96) : (tmL n P)[p]? = some (P.count (p : Int) : Int) := by
  unfold tmL
  rw [List.getElem?_map, List.getElem?_range (by omega)]
  simp [h1, h2]
theorem tmL_set {n : Int} {P : List Int} {p : Nat} (h1 : 1 ≤ p) (h2 : (p : Int) < n) (h9 : n ≤ 96) : (tmL n P).set p ((P.count (p : Int) : Int) + 1) = tmL n (P ++ [(p : Int)]) := by
  apply List.ext_getElem?
  intro i
  rw [List.getElem?_set]
  split
  · rename_i e
    subst e
    rw [if_pos (by rw [tmL_len]; omega), tmL_at h1 h2 h9, List.count_append]
    simp
  · rename_i hne
    unfold tmL
    rw [List.getElem?_map, List.getElem?_map]
    by_cases hi : i < 96
    · rw [List.getElem?_range hi]
      have e0 : ¬ (p : Int) = (i : Int) := by omega
      simp [List.count_append, List.count_cons, e0]
    · rw [List.getElem?_eq_none (by simp; omega)]
      rfl
theorem tmL_odd {n : Int} {P : List Int} {p : Int} (h : p < 1 ∨ n ≤ p) : tmL n P = tmL n (P ++ [p]) := by
  unfold tmL
  apply List.map_congr_left
  intro i _
  split
  · rename_i hi
    have e0 : ¬ p = (i : Int) := by omega
    simp [List.count_append, List.count_cons, e0]
  · rfl
theorem stB_odd {n : Int} {P : List Int} {p : Int} (h : p < 1 ∨ n ≤ p) : stB n (P ++ [p]) = true := by
  simp [stB]
  omega
theorem stB_ok {n : Int} {P : List Int} {p : Int} (h1 : 1 ≤ p) (h2 : p < n) : stB n (P ++ [p]) = stB n P := by
  simp [stB]
  omega
/-- Only blocks g and t have turned. -/
structure Only2 (g t : Nat) (w w' : World) : Prop where
  os : w'.os = w.os
  tape : w'.tape = w.tape
  output : w'.output = w.output
  size : w'.heap.size = w.heap.size
  block : ∀ k, k ≠ g → k ≠ t → w'.heap[k]? = w.heap[k]?
theorem Only.two1 {g t : Nat} {w w' : World} (h : Only g w w') : Only2 g t w w' := ⟨h.os, h.tape, h.output, h.size, fun k hk _ => h.block k hk⟩
theorem Only.two2 {g t : Nat} {w w' : World} (h : Only t w w') : Only2 g t w w' := ⟨h.os, h.tape, h.output, h.size, fun k _ hk => h.block k hk⟩
theorem keepA2 {g t k : Nat} {w w' : World} {o : Obj} (h : Hid (w.heap[k]? = some o)) (ho : Only2 g t w w') (hg : k ≠ g) (ht : k ≠ t) : Hid (w'.heap[k]? = some o) := (ho.block k hg ht).trans h.out
theorem keepB2 {B g t : Nat} {w0 w w' : World} (h : Hid (Below B w0 w ∧ B ≤ w.heap.size)) (ho : Only2 g t w w') (hg : B ≤ g) (ht : B ≤ t) : Hid (Below B w0 w' ∧ B ≤ w'.heap.size) :=
  ⟨⟨ho.os.trans h.out.1.os, ho.tape.trans h.out.1.tape, ho.output.trans h.out.1.output, by rw [ho.size]; exact h.out.1.size, fun i hi => (ho.block i (by omega) (by omega)).trans (h.out.1.block i hi)⟩, by rw [ho.size]; exact h.out.2⟩
theorem RdA.two {k : IntKind} {w w' : World} {A : Option Addr} {n g t : Nat} {xs : List Int} (h : RdA k w A n xs) (ho : Only2 g t w w') (hg : ∀ a, A = some a → 0 < n → a.block ≠ g ∧ a.block ≠ t) : RdA k w' A n xs :=
  ⟨h.1, fun hn => by
    obtain ⟨b, off, hA, hc⟩ := h.2 hn
    have hne := hg _ hA hn
    refine ⟨b, off, hA, fun j hj => ?_⟩
    have h1 := hc j hj
    unfold World.cell? at h1 ⊢
    simp only [ho.block b hne.1 hne.2]
    exact h1⟩
theorem RwA.two {w w' : World} {A : Option Addr} {k n g t : Nat} {rows : List (Array Value)} (h : RwA w A k n rows) (ho : Only2 g t w w') (hg : ∀ a, A = some a → 0 < n → a.block ≠ g ∧ a.block ≠ t) : RwA w' A k n rows :=
  ⟨h.1, h.2.1, fun hn => by
    obtain ⟨b, off, hA, hlt, hc⟩ := h.2.2 hn
    have hne := hg _ hA hn
    exact ⟨b, off, hA, by rw [ho.size]; exact hlt, fun j r hr => range_block (hc j r hr) (ho.block b hne.1 hne.2)⟩⟩
theorem infoBo : (Try.prog.info? 4).map (·.size) = some 1 := by kernel_rfl
/-- What one counted does. -/
def ClP (w w' : World) (n : Int) (gG gT : Nat) (P : List Int) (e : Ending) : Prop :=
  e = .returned (.tuple #[]) ∧ w'.heap[gG]? = some (.cells #[.bool (stB n P)] 4 (0, 0)) ∧ w'.heap[gT]? = some (.cells (ma .i64 (tmL n P)) 79 (0, 0)) ∧ Only2 gG gT w w'
theorem one_cl (g4 gG gT : Nat) (n p : Int) (P : List Int) (w : World) (h4 : w.heap[g4]? = some (.cells #[.int .i64 n] 3 (0, 0))) (hG : w.heap[gG]? = some (.cells #[.bool (stB n P)] 4 (0, 0))) (hT : w.heap[gT]? = some (.cells (ma .i64 (tmL n P)) 79 (0, 0))) (hGT : gG ≠ gT) (h9 : n ≤ 96) (hP : P.length ≤ 1000000) : Calls Try.prog 47 #[.int .i64 p, .pointer (some ⟨g4, 0, none⟩), .pointer (some ⟨gG, 0, none⟩), .pointer (some ⟨gT, 0, none⟩)] w fun e w' => ClP w w' n gG gT (P ++ [p]) e := by
  have H4 := Lib.hid h4
  have HG := Lib.hid hG
  have HT := Lib.hid hT
  have c4 := (cellA H4 0).trans rfl
  clear h4 hG hT
  by_cases h1 : p < 1
  · go_enter Try.func47, Try.ntmps47
    go_wp2_with (first | (refine cellStore rfl 4 _ _ rfl gG 0 rfl (.bool true) rfl rfl rfl HG.out (by simp) infoBo ?_; intro w1 hg ho; replace HT := keepAo HT (by omega) ho; clear HG; have HG := Lib.hid hg; have HO := Lib.hid ho; clear hg ho))
    refine bodyPost_ret (results_none rfl _ _ _) rfl ?_
    exact ⟨rfl, by rw [stB_odd (.inl h1)]; exact HG.out, by rw [← tmL_odd (.inl h1)]; exact HT.out, HO.out.two1⟩
  · by_cases h2 : n ≤ p
    · go_enter Try.func47, Try.ntmps47
      go_wp2_with (first | (refine cellStore rfl 4 _ _ rfl gG 0 rfl (.bool true) rfl rfl rfl HG.out (by simp) infoBo ?_; intro w1 hg ho; replace HT := keepAo HT (by omega) ho; clear HG; have HG := Lib.hid hg; have HO := Lib.hid ho; clear hg ho))
      refine bodyPost_ret (results_none rfl _ _ _) rfl ?_
      exact ⟨rfl, by rw [stB_odd (.inr h2)]; exact HG.out, by rw [← tmL_odd (.inr h2)]; exact HT.out, HO.out.two1⟩
    · obtain ⟨q, rfl⟩ : ∃ q : Nat, p = (q : Int) := ⟨p.toNat, by omega⟩
      have hq := tmL_at (P := P) (show 1 ≤ q by omega) (show (q : Int) < n by omega) h9
      have ct : w.cell? ⟨gT, q, none⟩ = some (.int .i64 (P.count (q : Int) : Int)) := (cellA HT q).trans (by simp [ma, hq])
      have hc : P.count (q : Int) ≤ 1000000 := Nat.le_trans List.count_le_length hP
      have hq96 : q < 96 := by omega
      clear hq
      go_enter Try.func47, Try.ntmps47
      go_wp2_with (first | (refine cellStore rfl 3 _ _ rfl gT q rfl (.int .i64 ((P.count (q : Int) : Int) + 1)) rfl rfl rfl HT.out (by rw [ma_size, tmL_len]; omega) infoInt1 ?_; intro w1 hg ho; replace HG := keepAo HG (by omega) ho; clear HT; have HT := Lib.hid hg; have HO := Lib.hid ho; clear hg ho))
      go_end0
      refine ⟨rfl, by rw [stB_ok (by omega) (by omega)]; exact HG.out, ?_, HO.out.two2⟩
      have h5 := HT.out
      rw [ma_set, tmL_set (by omega) (by omega) h9] at h5
      exact h5
end Go.Proofs.Ytpgighhnhidpcaa.My
