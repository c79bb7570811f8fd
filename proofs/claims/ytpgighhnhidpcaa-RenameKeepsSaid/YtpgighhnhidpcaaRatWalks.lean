/- Walks over the register map's functions (package rat and its reference): what each answers, told on lists of numbers. -/
import Derived.Test.YtpgighhnhidpcaaRegWords
import Derived.LoopTactic
import Derived.Outline
namespace Go.Proofs.Ytpgighhnhidpcaa.My.Rat
open Go.RowKit

/-- Register r's place in the list, if there is such a register. -/
def regB (r : Int) : Bool := decide (0 < r) && decide (r < 16)
def getM (xs : List Int) (r : Int) : Int := if regB r = true then (xs[r.toNat]?).getD 0 else -1
def setM (xs : List Int) (r p : Int) : List Int := if regB r = true then xs.set r.toNat p else xs

theorem is_any (r : Int) (w : World) : Calls Try.prog 54 #[.int .i64 r] w fun e w' => e = .returned (.bool (regB r)) ∧ w = w' := by
  by_cases h1 : 0 < r <;> by_cases h2 : r < 16
  all_goals
    go_enter Try.func54, Try.ntmps54
    go_wp2
    go_ret
    exact ⟨by simp [regB, *], rfl⟩


theorem get_any (xs : List Int) (r : Int) (w : World) (hl : xs.length = 16) : Calls Try.prog 32 #[.agg (ma .i64 xs), .int .i64 r] w fun e w' => e = .returned (.int .i64 (getM xs r)) ∧ Below w.heap.size w w' := by
  by_cases h : regB r = true
  · have hx : 0 < r ∧ r < 16 := by simpa [regB] using h
    obtain ⟨h1, h2⟩ := hx
    have hg := ma_get (k := .i64) (xs := xs) (i := r.toNat) (by omega)
    clear hl
    go_enter Try.func32, Try.ntmps32
    go_wp2_with (go_at_call 54; refine (is_any _ _).mono ?_; rintro e w' ⟨rfl, rfl⟩)
    go_ret
    exact ⟨by simp [getM, h], (Below.refl _ _).alloc (Nat.le_refl _) _⟩
  · have h' : regB r = false := by simpa using h
    clear h hl
    go_enter Try.func32, Try.ntmps32
    go_wp2_with (go_at_call 54; refine (is_any _ _).mono ?_; rintro e w' ⟨rfl, rfl⟩)
    go_ret
    exact ⟨by simp [getM, h'], (Below.refl _ _).alloc (Nat.le_refl _) _⟩

theorem rget_any (xs : List Int) (r : Int) (w : World) (hl : xs.length = 16) : Calls Try.prog 36 #[.agg (ma .i64 xs), .int .i64 r] w fun e w' => e = .returned (.int .i64 (getM xs r)) ∧ Below w.heap.size w w' := by
  by_cases h1 : r < 1
  · clear hl
    go_enter Try.func36, Try.ntmps36
    go_wp2
    go_ret
    exact ⟨by have : regB r = false := by simp [regB]; omega
              simp [getM, this], (Below.refl _ _).alloc (Nat.le_refl _) _⟩
  · by_cases h2 : 15 < r
    · clear hl
      go_enter Try.func36, Try.ntmps36
      go_wp2
      go_ret
      exact ⟨by have : regB r = false := by simp [regB]; omega
                simp [getM, this], (Below.refl _ _).alloc (Nat.le_refl _) _⟩
    · have hg := ma_get (k := .i64) (xs := xs) (i := r.toNat) (by omega)
      clear hl
      go_enter Try.func36, Try.ntmps36
      go_wp2
      go_ret
      exact ⟨by have : regB r = true := by simp [regB]; omega
                simp [getM, this], (Below.refl _ _).alloc (Nat.le_refl _) _⟩


theorem infoMap : (Try.prog.info? 23).map (·.size) = some 16 := by kernel_rfl

theorem wl_load {ops : Array Oper} {Q : Exit → Act → World → Prop} {rest : List Oper} {o : Oper} {a : Act} {w : World} (hgd : o.guard = none) (x : Operand) (ho : o.op = .load 23 x) (g : Nat) (hx : a.eval x = .pointer (some ⟨g, 0, none⟩))
    (xs : List Int) (hl : xs.length = 16) (hg : w.heap[g]? = some (.cells (ma .i64 xs) 23 (0, 0))) (h : wpList Try.prog ops Q rest (a.put o.dst (.agg (ma .i64 xs))) w) : wpList Try.prog ops Q (o :: rest) a w :=
  wpList_load_row hgd 23 x ho g hx 23 _ (0, 0) _ hg Try.underlying23 rfl (by rw [ma_size, hl]; exact infoMap) h

theorem wl_store {ops : Array Oper} {Q : Exit → Act → World → Prop} {rest : List Oper} {o : Oper} {a : Act} {w : World} (hgd : o.guard = none) (x y : Operand) (ho : o.op = .store 23 x y) (g : Nat) (hx : a.eval x = .pointer (some ⟨g, 0, none⟩))
    (xs : List Int) (hy : a.eval y = .agg (ma .i64 xs)) (hl : xs.length = 16) (old : Array Value) (hg : w.heap[g]? = some (.cells old 23 (0, 0))) (hold : old.size = 16) (h : wpList Try.prog ops Q rest (a.put o.dst undef) (w.setRow g (ma .i64 xs))) : wpList Try.prog ops Q (o :: rest) a w :=
  wpList_store_row hgd 23 x y ho g (ma .i64 xs) hx hy 23 old hg (by rw [ma_size, hl]; exact infoMap) (by rw [ma_size, hl, hold]) (ma_one _ _) h

theorem set_any (xs : List Int) (r p : Int) (w : World) (hl : xs.length = 16) : Calls Try.prog 35 #[.agg (ma .i64 xs), .int .i64 r, .int .i64 p] w fun e w' => e = .returned (.agg (ma .i64 (setM xs r p))) ∧ Below w.heap.size w w' := by
  by_cases h : regB r = true
  · have hx : 0 < r ∧ r < 16 := by simpa [regB] using h
    obtain ⟨h1, h2⟩ := hx
    have hg := ma_get (k := .i64) (xs := xs) (i := r.toNat) (by omega)
    have hms := ma_set .i64 xs r.toNat p
    have hl2 : (xs.set r.toNat p).length = 16 := by rw [List.length_set]; exact hl
    have HL := Lib.hid hl2
    clear hl hl2
    go_enter Try.func35, Try.ntmps35
    go_wp2_with (first | (go_at_call 54; refine (is_any _ _).mono ?_; rintro e w' ⟨rfl, rfl⟩) | (refine wl_load rfl _ rfl _ rfl _ HL.out (by first | exact heap_alloc_new _ _ | exact heap_alloc2_new _ _ _ | exact heap_alloc2_old _ _ _) ?_) | (refine wl_store rfl _ _ rfl _ rfl _ rfl HL.out _ (by first | exact heap_alloc_new _ _ | exact heap_alloc2_new _ _ _ | exact heap_alloc2_old _ _ _) (by rfl) ?_))
    refine bodyPost_ret (results_cell_row rfl _ _ (w.heap.size + 1) 23 (ma .i64 (xs.set r.toNat p)) (0, 0) _ rfl (setRow_heap _ _ _ _ _ _ (heap_alloc2_new _ _ _)) Try.underlying23 rfl (by rw [ma_size, HL.out]; exact infoMap)) rfl ⟨by simp [setM, h], ?_⟩
    exact below_setRow (((Below.refl _ _).alloc (Nat.le_refl _) _).alloc (by simp) _) (by omega) _
  · have h' : regB r = false := by simpa using h
    have HL := Lib.hid hl
    clear hl h
    go_enter Try.func35, Try.ntmps35
    go_wp2_with (first | (go_at_call 54; refine (is_any _ _).mono ?_; rintro e w' ⟨rfl, rfl⟩) | (refine wl_load rfl _ rfl _ rfl _ HL.out (by first | exact heap_alloc_new _ _ | exact heap_alloc2_new _ _ _ | exact heap_alloc2_old _ _ _) ?_) | (refine wl_store rfl _ _ rfl _ rfl _ rfl HL.out _ (by first | exact heap_alloc_new _ _ | exact heap_alloc2_new _ _ _ | exact heap_alloc2_old _ _ _) (by rfl) ?_))
    refine bodyPost_ret (results_cell_row rfl _ _ (w.heap.size + 1) 23 (ma .i64 xs) (0, 0) _ rfl (setRow_heap _ _ _ _ _ _ (heap_alloc2_new _ _ _)) Try.underlying23 rfl (by rw [ma_size, HL.out]; exact infoMap)) rfl ⟨by simp [setM, h'], ?_⟩
    exact below_setRow (((Below.refl _ _).alloc (Nat.le_refl _) _).alloc (by simp) _) (by omega) _

theorem rset_any (xs : List Int) (r p : Int) (w : World) (hl : xs.length = 16) : Calls Try.prog 38 #[.agg (ma .i64 xs), .int .i64 r, .int .i64 p] w fun e w' => e = .returned (.agg (ma .i64 (setM xs r p))) ∧ Below w.heap.size w w' := by
  by_cases h : 1 ≤ r ∧ r ≤ 15
  · obtain ⟨h1, h2⟩ := h
    have hB : regB r = true := by simp [regB]; omega
    have hg := ma_get (k := .i64) (xs := xs) (i := r.toNat) (by omega)
    have hms := ma_set .i64 xs r.toNat p
    have hl2 : (xs.set r.toNat p).length = 16 := by rw [List.length_set]; exact hl
    have HL := Lib.hid hl2
    clear hl hl2
    go_enter Try.func38, Try.ntmps38
    go_wp2_with (first | (refine wl_load rfl _ rfl _ rfl _ HL.out (by first | exact heap_alloc_new _ _ | exact heap_alloc2_new _ _ _ | exact heap_alloc2_old _ _ _) ?_) | (refine wl_store rfl _ _ rfl _ rfl _ rfl HL.out _ (by first | exact heap_alloc_new _ _ | exact heap_alloc2_new _ _ _ | exact heap_alloc2_old _ _ _) (by rfl) ?_))
    refine bodyPost_ret (results_cell_row rfl _ _ (w.heap.size + 1) 23 (ma .i64 (xs.set r.toNat p)) (0, 0) _ rfl (setRow_heap _ _ _ _ _ _ (heap_alloc2_new _ _ _)) Try.underlying23 rfl (by rw [ma_size, HL.out]; exact infoMap)) rfl ⟨by simp [setM, hB], ?_⟩
    exact below_setRow (((Below.refl _ _).alloc (Nat.le_refl _) _).alloc (by simp) _) (by omega) _
  · have h' : regB r = false := by simp [regB]; omega
    have HL := Lib.hid hl
    clear hl
    by_cases h1 : 1 ≤ r
    · have h2 : ¬ r ≤ 15 := by omega
      clear h
      go_enter Try.func38, Try.ntmps38
      go_wp2_with (first | (refine wl_load rfl _ rfl _ rfl _ HL.out (by first | exact heap_alloc_new _ _ | exact heap_alloc2_new _ _ _ | exact heap_alloc2_old _ _ _) ?_) | (refine wl_store rfl _ _ rfl _ rfl _ rfl HL.out _ (by first | exact heap_alloc_new _ _ | exact heap_alloc2_new _ _ _ | exact heap_alloc2_old _ _ _) (by rfl) ?_))
      refine bodyPost_ret (results_cell_row rfl _ _ (w.heap.size + 1) 23 (ma .i64 xs) (0, 0) _ rfl (setRow_heap _ _ _ _ _ _ (heap_alloc2_new _ _ _)) Try.underlying23 rfl (by rw [ma_size, HL.out]; exact infoMap)) rfl ⟨by simp [setM, h'], ?_⟩
      exact below_setRow (((Below.refl _ _).alloc (Nat.le_refl _) _).alloc (by simp) _) (by omega) _
    · clear h
      go_enter Try.func38, Try.ntmps38
      go_wp2_with (first | (refine wl_load rfl _ rfl _ rfl _ HL.out (by first | exact heap_alloc_new _ _ | exact heap_alloc2_new _ _ _ | exact heap_alloc2_old _ _ _) ?_) | (refine wl_store rfl _ _ rfl _ rfl _ rfl HL.out _ (by first | exact heap_alloc_new _ _ | exact heap_alloc2_new _ _ _ | exact heap_alloc2_old _ _ _) (by rfl) ?_))
      refine bodyPost_ret (results_cell_row rfl _ _ (w.heap.size + 1) 23 (ma .i64 xs) (0, 0) _ rfl (setRow_heap _ _ _ _ _ _ (heap_alloc2_new _ _ _)) Try.underlying23 rfl (by rw [ma_size, HL.out]; exact infoMap)) rfl ⟨by simp [setM, h'], ?_⟩
      exact below_setRow (((Below.refl _ _).alloc (Nat.le_refl _) _).alloc (by simp) _) (by omega) _

/-- The new map, laid as far as register k. -/
def newL (k : Nat) : List Int := (List.range 16).map fun i => if i = 0 then -1 else if i < k then (i : Int) else 0
theorem newL_set : ∀ k, k < 16 → 1 ≤ k → (newL k).set k (k : Int) = newL (k + 1) := by decide

theorem new_any (w : World) : Calls Try.prog 28 #[] w fun e w' => e = .returned (.agg (ma .i64 (newL 16))) ∧ Below w.heap.size w w' := by
  go_enter Try.func28, Try.ntmps28
  go_wp2
  go_loopw [2] (fun i wr => ∃ k : Nat, 1 ≤ k ∧ k ≤ 16 ∧ i = .int .i64 k ∧ wr = (w.alloc (.cells #[.int .i64 0, .int .i64 0, .int .i64 0, .int .i64 0, .int .i64 0, .int .i64 0, .int .i64 0, .int .i64 0, .int .i64 0, .int .i64 0, .int .i64 0, .int .i64 0, .int .i64 0, .int .i64 0, .int .i64 0, .int .i64 0] 23)).alloc (.cells (ma .i64 (newL k)) 23)) (fun i _ => 16 - (intOf i).toNat)
  case atStart => exact ⟨1, by omega, by omega, rfl, rfl⟩
  case round =>
    obtain ⟨k, hk1, hk, rfl, rfl⟩ := hrel
    by_cases hlt : k < 16
    · have hg := ma_get (k := .i64) (xs := newL k) (i := k) (by simp [newL]; omega)
      have hms := ma_set .i64 (newL k) k (k : Int)
      have HS := Lib.hid (newL_set k hlt hk1)
      go_wp2
      go_roundw
      case rel => exact ⟨k + 1, by omega, by omega, by go_num, by rw [HS.out]⟩
      case measure => simp [intOf]; omega
    · obtain rfl : k = 16 := by omega
      have HL := Lib.hid (show (newL 16).length = 16 by simp [newL])
      go_wp2_with (first | (refine wl_load rfl _ rfl _ rfl _ HL.out (by first | exact heap_alloc_new _ _ | exact heap_alloc2_new _ _ _ | exact heap_alloc2_old _ _ _) ?_) | (refine wl_store rfl _ _ rfl _ rfl _ rfl HL.out _ (by first | exact heap_alloc_new _ _ | exact heap_alloc2_new _ _ _ | exact heap_alloc2_old _ _ _) (by rfl) ?_))
      refine bodyPost_ret (results_cell_row rfl _ _ w.heap.size 23 (ma .i64 (newL 16)) (0, 0) _ rfl (setRow_heap _ _ _ _ _ _ (heap_alloc2_old _ _ _)) Try.underlying23 rfl (by rw [ma_size, HL.out]; exact infoMap)) rfl ⟨rfl, ?_⟩
      exact below_setRow (((Below.refl _ _).alloc (Nat.le_refl _) _).alloc (by simp) _) (by omega) _

/-- The reference's map, laid as far as register k. -/
def newR (k : Nat) : List Int := (List.range 16).map fun i => if i < k then (i : Int) else 0
theorem newR_set : ∀ k, k < 16 → (newR k).set k (k : Int) = newR (k + 1) := by decide
theorem newR_end : (newR 16).set 0 (-1) = newL 16 := by decide

theorem rnew_any (w : World) : Calls Try.prog 30 #[] w fun e w' => e = .returned (.agg (ma .i64 (newL 16))) ∧ Below w.heap.size w w' := by
  go_enter Try.func30, Try.ntmps30
  go_wp2
  go_loopw [2] (fun i wr => ∃ k : Nat, k ≤ 16 ∧ i = .int .i64 k ∧ wr = (w.alloc (.cells #[.int .i64 0, .int .i64 0, .int .i64 0, .int .i64 0, .int .i64 0, .int .i64 0, .int .i64 0, .int .i64 0, .int .i64 0, .int .i64 0, .int .i64 0, .int .i64 0, .int .i64 0, .int .i64 0, .int .i64 0, .int .i64 0] 23)).alloc (.cells (ma .i64 (newR k)) 23)) (fun i _ => 16 - (intOf i).toNat)
  case atStart => exact ⟨0, by omega, rfl, rfl⟩
  case round =>
    obtain ⟨k, hk, rfl, rfl⟩ := hrel
    by_cases hlt : k < 16
    · have hg := ma_get (k := .i64) (xs := newR k) (i := k) (by simp [newR]; omega)
      have hms := ma_set .i64 (newR k) k (k : Int)
      have HS := Lib.hid (newR_set k hlt)
      go_wp2
      go_roundw
      case rel => exact ⟨k + 1, by omega, by go_num, by rw [HS.out]⟩
      case measure => simp [intOf]; omega
    · obtain rfl : k = 16 := by omega
      have hg := ma_get (k := .i64) (xs := newR 16) (i := 0) (by simp [newR])
      have hms := ma_set .i64 (newR 16) 0 (-1)
      rw [newR_end] at hms
      have HL := Lib.hid (show (newL 16).length = 16 by simp [newL])
      go_wp2_with (first | (refine wl_load rfl _ rfl _ rfl _ HL.out (by first | exact heap_alloc_new _ _ | exact heap_alloc2_new _ _ _ | exact heap_alloc2_old _ _ _) ?_) | (refine wl_store rfl _ _ rfl _ rfl _ rfl HL.out _ (by first | exact heap_alloc_new _ _ | exact heap_alloc2_new _ _ _ | exact heap_alloc2_old _ _ _) (by rfl) ?_))
      refine bodyPost_ret (results_cell_row rfl _ _ w.heap.size 23 (ma .i64 (newL 16)) (0, 0) _ rfl (setRow_heap _ _ _ _ _ _ (heap_alloc2_old _ _ _)) Try.underlying23 rfl (by rw [ma_size, HL.out]; exact infoMap)) rfl ⟨rfl, ?_⟩
      exact below_setRow (((Below.refl _ _).alloc (Nat.le_refl _) _).alloc (by simp) _) (by omega) _

end Go.Proofs.Ytpgighhnhidpcaa.My.Rat
