/- Walks: may a ring be; both sides. -/
import Derived.Test.YtpgighhnhidpcaaFreelAwake
set_option linter.unusedSimpArgs false
set_option linter.unusedVariables false
namespace Go.Proofs.Ytpgighhnhidpcaa.My
open Go.RowKit
theorem ring_zero (xs : List Int) : ringL xs 0 0 0 = [] := by
  unfold ringL
  split <;> rfl
theorem list_zero (A : Option Addr) (c : Nat) (w : World) : Calls Try.prog 23 #[.agg #[.slice A 0 c, .int .i64 0, .int .i64 0]] w fun e w' => (∃ v, e = .returned v ∧ OwnI w' w.heap.size v []) ∧ Below w.heap.size w w' := by
  have hnm : 0 ≤ 9223372036854775807 := by omega
  have hs : soundB 0 0 0 = true := by decide
  have HA : Hid ((w.alloc (.cells #[.slice A 0 c, .int .i64 0, .int .i64 0] 26)).heap[w.heap.size]? = some (.cells #[.slice A 0 c, .int .i64 0, .int .i64 0] 26 (0, 0))) := newA w _
  have HB := keepBa (startB w) (.cells #[.slice A 0 c, .int .i64 0, .int .i64 0] 26)
  go_enter Try.func23, Try.ntmps23
  go_wp2_with (first | (go_at_call 43; refine (sound_any _ _ _ _ _ _ hnm).mono ?_; rintro e w1 ⟨rfl, hb⟩; replace HA := keepA HA hb; replace HB := keepB HB hb; (try clear c0 c1 c2); have c0 := (cellA HA 0).trans rfl; have c1 := (cellA HA 1).trans rfl; have c2 := (cellA HA 2).trans rfl; clear hb) | (refine rowLoad rfl 26 _ rfl _ rfl HA.out Try.underlying26 rfl infoFree ?_))
  refine wp_loop_rounds 1 ?_
  rw [rounds_succ]
  go_wp2
  go_ret
  exact ⟨⟨_, rfl, own_nil _ _ _⟩, HB.out.1⟩
theorem rlist_zero (A : Option Addr) (c : Nat) (w : World) : Calls Try.prog 58 #[.agg #[.slice A 0 c, .int .i64 0, .int .i64 0]] w fun e w' => (∃ v, e = .returned v ∧ OwnI w' w.heap.size v []) ∧ Below w.heap.size w w' := by
  have hnm : 0 ≤ 9223372036854775807 := by omega
  have hs : soundB 0 0 0 = true := by decide
  have HA : Hid (((w.alloc (.cells #[.slice A 0 c, .int .i64 0, .int .i64 0] 26)).alloc (.cells #[] 3)).heap[w.heap.size]? = some (.cells #[.slice A 0 c, .int .i64 0, .int .i64 0] 26 (0, 0))) := keepAa (newA w _) _
  have HB := keepBa (keepBa (startB w) (.cells #[.slice A 0 c, .int .i64 0, .int .i64 0] 26)) (.cells #[] 3)
  have HO := Lib.hid (own_mt w w.heap.size (.cells #[.slice A 0 c, .int .i64 0, .int .i64 0] 26) (by simp))
  go_enter Try.func58, Try.ntmps58
  go_wp2_with (first | (go_at_call 55; refine (is_any _ _ _ _ _ _ hnm).mono ?_; rintro e w1 ⟨rfl, hb⟩; replace HA := keepA HA hb; replace HB := keepB HB hb; (try clear c0 c1 c2); have c0 := (cellA HA 0).trans rfl; have c1 := (cellA HA 1).trans rfl; have c2 := (cellA HA 2).trans rfl; replace HO := Lib.hid (own_below HO.out hb); clear hb) | (refine rowLoad rfl 26 _ rfl _ rfl HA.out Try.underlying26 rfl infoFree ?_))
  refine wp_loop_rounds 1 ?_
  rw [rounds_succ]
  go_wp2
  go_ret
  exact ⟨⟨_, rfl, HO.out⟩, HB.out.1⟩
theorem list_any (A : Option Addr) (n c : Nat) (h N : Int) (xs : List Int) (w : World) (hr : RdA .i64 w A n xs) (hnm : n ≤ 9223372036854775807) : Calls Try.prog 23 #[.agg #[.slice A n c, .int .i64 h, .int .i64 N]] w fun e w' => (∃ A c, e = .returned (.slice A (ringL xs n h N).length c) ∧ RdA .i64 w' A (ringL xs n h N).length (ringL xs n h N)) ∧ Below w.heap.size w w' := by
  have key : Calls Try.prog 23 #[.agg #[.slice A n c, .int .i64 h, .int .i64 N]] w fun e w' => (∃ v, e = .returned v ∧ OwnI w' w.heap.size v (ringL xs n h N)) ∧ Below w.heap.size w w' := by
    cases hs : soundB n h N with
    | false =>
      have e : ringL xs n h N = [] := by unfold ringL; rw [hs]; rfl
      rw [e]
      exact list_no A n c h N w hnm hs
    | true =>
      by_cases hn : n = 0
      · obtain ⟨a1, a2, a3, a4, a5⟩ := sound_iff.1 hs
        have e1 : h = 0 := by omega
        have e2 : N = 0 := by omega
        subst hn e1 e2
        rw [ring_zero]
        exact list_zero A c w
      · obtain ⟨b, off, rfl, hc⟩ := hr.2 (by omega)
        exact list_yes b off n c h N xs w hc (by omega) hs
  refine key.mono ?_
  rintro e w' ⟨⟨v, rfl, ho⟩, hb⟩
  obtain ⟨A, c, rfl, hr⟩ := own_rd ho
  exact ⟨⟨A, c, rfl, hr⟩, hb⟩
theorem rlist_any (A : Option Addr) (n c : Nat) (h N : Int) (xs : List Int) (w : World) (hr : RdA .i64 w A n xs) (hnm : n ≤ 9223372036854775807) : Calls Try.prog 58 #[.agg #[.slice A n c, .int .i64 h, .int .i64 N]] w fun e w' => (∃ A c, e = .returned (.slice A (ringL xs n h N).length c) ∧ RdA .i64 w' A (ringL xs n h N).length (ringL xs n h N)) ∧ Below w.heap.size w w' := by
  have key : Calls Try.prog 58 #[.agg #[.slice A n c, .int .i64 h, .int .i64 N]] w fun e w' => (∃ v, e = .returned v ∧ OwnI w' w.heap.size v (ringL xs n h N)) ∧ Below w.heap.size w w' := by
    cases hs : soundB n h N with
    | false =>
      have e : ringL xs n h N = [] := by unfold ringL; rw [hs]; rfl
      rw [e]
      exact rlist_no A n c h N w hnm hs
    | true =>
      by_cases hn : n = 0
      · obtain ⟨a1, a2, a3, a4, a5⟩ := sound_iff.1 hs
        have e1 : h = 0 := by omega
        have e2 : N = 0 := by omega
        subst hn e1 e2
        rw [ring_zero]
        exact rlist_zero A c w
      · obtain ⟨b, off, rfl, hc⟩ := hr.2 (by omega)
        exact rlist_yes b off n c h N xs w hc (by omega) hs
  refine key.mono ?_
  rintro e w' ⟨⟨v, rfl, ho⟩, hb⟩
  obtain ⟨A, c, rfl, hr⟩ := own_rd ho
  exact ⟨⟨A, c, rfl, hr⟩, hb⟩
/-- No number twice, each between 0 and m: the rest of a list, behind a part of it. -/
def rtR (m : Int) : List Int → List Int → Bool
  | [], _ => true
  | p :: r, pre => if p < 0 ∨ m ≤ p ∨ p ∈ pre then false else rtR m r (pre ++ [p])
def rightB (xs : List Int) (n : Nat) (h N m : Int) : Bool := soundB n h N && (decide ((n : Int) = m) && rtR m (ringL xs n h N) [])
theorem drop_el {L : List Int} {i : Nat} (h : i < L.length) : L.drop i = el L i :: L.drop (i + 1) := by
  rw [List.drop_eq_getElem_cons h]
  simp [el, List.getElem?_eq_getElem h]
theorem take_el {L : List Int} {i : Nat} (h : i < L.length) : L.take (i + 1) = L.take i ++ [el L i] := by
  rw [List.take_succ_eq_append_getElem h]
  simp [el, List.getElem?_eq_getElem h]
def seenA (pre : List Int) : Array Value := ((List.range 96).map fun (i : Nat) => Value.bool (decide ((i : Int) ∈ pre))).toArray
theorem seen_size (pre : List Int) : (seenA pre).size = 96 := by simp [seenA]
theorem seen_get (pre : List Int) {P : Nat} (h : P < 96) : (seenA pre)[P]? = some (.bool (decide ((P : Int) ∈ pre))) := by
  unfold seenA
  rw [List.getElem?_toArray, List.getElem?_map, List.getElem?_range h]
  rfl
theorem seen_set (pre : List Int) (P : Nat) : (seenA pre).setIfInBounds P (.bool true) = seenA (pre ++ [(P : Int)]) := by
  apply Array.ext'
  unfold seenA
  rw [Array.toList_setIfInBounds]
  apply List.ext_getElem?
  intro i
  rw [List.getElem?_set]
  simp only [List.getElem?_map]
  by_cases h : i < 96
  · rw [List.getElem?_range h]
    by_cases h2 : P = i
    · subst h2; simp [h]
    · have h3 : ((i : Int) = (P : Int)) = False := by
        apply eq_false; omega
      simp [h2, h3]
  · rw [List.getElem?_eq_none (by simp; omega)]
    by_cases h2 : P = i
    · simp [h2]; omega
    · simp [h2]
theorem seen_nil : seenA [] = (List.replicate 96 (Value.bool false)).toArray := by rfl
theorem infoBool : (Try.prog.info? 4).map (·.size) = some 1 := by kernel_rfl
theorem ne_seen {w : World} {G : Nat} {pre : List Int} {t : TypeId} {fr : Nat × Nat} {A : Option Addr} {n : Nat} {xs : List Int} (hs : w.heap[G]? = some (.cells (seenA pre) t fr)) (hr : RdA .i64 w A n xs) : ∀ a, A = some a → 0 < n → a.block ≠ G := by
  intro a ha hn hG
  obtain ⟨b, off, hA, hc⟩ := hr.2 hn
  rw [ha] at hA
  injection hA with hA
  subst hA
  have h1 := hc 0 hn
  have hG2 : b = G := hG
  subst hG2
  rw [cell_of_row w b (off + 0) _ _ _ hs] at h1
  by_cases q : off + 0 < 96
  · rw [seen_get pre q] at h1; cases h1
  · rw [Array.getElem?_eq_none (by rw [seen_size]; omega)] at h1; cases h1
theorem zero96 (w : World) : (zeroValue 86).run Try.prog w = .ok (.agg (List.replicate 96 (Value.bool false)).toArray) w := by kernel_rfl
theorem right_no (A : Option Addr) (n c : Nat) (h N m : Int) (w : World) (hnm : n ≤ 9223372036854775807) (hs : soundB n h N = false ∨ (n : Int) ≠ m) : Calls Try.prog 46 #[.agg #[.slice A n c, .int .i64 h, .int .i64 N], .int .i64 m] w fun e w' => e = .returned (.bool false) ∧ Below w.heap.size w w' := by
  have HA : Hid ((w.alloc (.cells #[.slice A n c, .int .i64 h, .int .i64 N] 26)).heap[w.heap.size]? = some (.cells #[.slice A n c, .int .i64 h, .int .i64 N] 26 (0, 0))) := newA w _
  have HB := keepBa (startB w) (.cells #[.slice A n c, .int .i64 h, .int .i64 N] 26)
  cases hs2 : soundB n h N with
  | false =>
    clear hs
    go_enter Try.func46, Try.ntmps46
    go_wp2_with (first | (go_at_call 43; refine (sound_any _ _ _ _ _ _ hnm).mono ?_; rintro e w1 ⟨rfl, hb⟩; replace HA := keepA HA hb; replace HB := keepB HB hb; (try clear c0 c1 c2); have c0 := (cellA HA 0).trans rfl; have c1 := (cellA HA 1).trans rfl; have c2 := (cellA HA 2).trans rfl; clear hb) | (refine rowLoad rfl 26 _ rfl _ rfl HA.out Try.underlying26 rfl infoFree ?_))
    go_ret
    exact ⟨rfl, HB.out.1⟩
  | true =>
    have e1 : ((n : Int) != m) = true := bne_iff_ne.2 (by rcases hs with q | q; rw [hs2] at q; cases q; exact q)
    clear hs
    go_enter Try.func46, Try.ntmps46
    go_wp2_with (first | (go_at_call 43; refine (sound_any _ _ _ _ _ _ hnm).mono ?_; rintro e w1 ⟨rfl, hb⟩; replace HA := keepA HA hb; replace HB := keepB HB hb; (try clear c0 c1 c2); have c0 := (cellA HA 0).trans rfl; have c1 := (cellA HA 1).trans rfl; have c2 := (cellA HA 2).trans rfl; clear hb) | (refine rowLoad rfl 26 _ rfl _ rfl HA.out Try.underlying26 rfl infoFree ?_))
    go_ret
    exact ⟨rfl, HB.out.1⟩
theorem rright_no (A : Option Addr) (n c : Nat) (h N m : Int) (w : World) (hnm : n ≤ 9223372036854775807) (hs : soundB n h N = false ∨ (n : Int) ≠ m) : Calls Try.prog 51 #[.agg #[.slice A n c, .int .i64 h, .int .i64 N], .int .i64 m] w fun e w' => e = .returned (.bool false) ∧ Below w.heap.size w w' := by
  have HA : Hid ((w.alloc (.cells #[.slice A n c, .int .i64 h, .int .i64 N] 26)).heap[w.heap.size]? = some (.cells #[.slice A n c, .int .i64 h, .int .i64 N] 26 (0, 0))) := newA w _
  have HB := keepBa (startB w) (.cells #[.slice A n c, .int .i64 h, .int .i64 N] 26)
  cases hs2 : soundB n h N with
  | false =>
    clear hs
    go_enter Try.func51, Try.ntmps51
    go_wp2_with (first | (go_at_call 55; refine (is_any _ _ _ _ _ _ hnm).mono ?_; rintro e w1 ⟨rfl, hb⟩; replace HA := keepA HA hb; replace HB := keepB HB hb; (try clear c0 c1 c2); have c0 := (cellA HA 0).trans rfl; have c1 := (cellA HA 1).trans rfl; have c2 := (cellA HA 2).trans rfl; clear hb) | (refine rowLoad rfl 26 _ rfl _ rfl HA.out Try.underlying26 rfl infoFree ?_))
    go_ret
    exact ⟨rfl, HB.out.1⟩
  | true =>
    have e1 : ((n : Int) != m) = true := bne_iff_ne.2 (by rcases hs with q | q; rw [hs2] at q; cases q; exact q)
    clear hs
    go_enter Try.func51, Try.ntmps51
    go_wp2_with (first | (go_at_call 55; refine (is_any _ _ _ _ _ _ hnm).mono ?_; rintro e w1 ⟨rfl, hb⟩; replace HA := keepA HA hb; replace HB := keepB HB hb; (try clear c0 c1 c2); have c0 := (cellA HA 0).trans rfl; have c1 := (cellA HA 1).trans rfl; have c2 := (cellA HA 2).trans rfl; clear hb) | (refine rowLoad rfl 26 _ rfl _ rfl HA.out Try.underlying26 rfl infoFree ?_))
    go_ret
    exact ⟨rfl, HB.out.1⟩
set_option maxRecDepth 100000 in
set_option maxHeartbeats 4000000 in
theorem right_yes (A : Option Addr) (n c : Nat) (h N m : Int) (xs : List Int) (w : World) (hr : RdA .i64 w A n xs) (hnm : n ≤ 9223372036854775807) (hs : soundB n h N = true) (hm : (n : Int) = m) : Calls Try.prog 46 #[.agg #[.slice A n c, .int .i64 h, .int .i64 N], .int .i64 m] w fun e w' => e = .returned (.bool (rtR m (ringL xs n h N) [])) ∧ Below w.heap.size w w' := by
  obtain ⟨hn9, _, _, _, _⟩ := sound_iff.1 hs
  obtain ⟨L, hL⟩ : ∃ L, ringL xs n h N = L := ⟨_, rfl⟩
  obtain ⟨l, hl⟩ : ∃ l, L.length = l := ⟨_, rfl⟩
  obtain ⟨R, hR⟩ : ∃ R, rtR m L [] = R := ⟨_, rfl⟩
  rw [hL, hR]
  have HL := Lib.hid hL
  have HLN := Lib.hid hl
  have HRR := Lib.hid hR
  have HR := Lib.hid hr
  have HM := Lib.hid hm
  have hl96 : l ≤ 96 := by
    rw [← hl, ← hL, ring_len hs]
    omega
  have e1 : ((n : Int) != m) = false := by rw [hm]; exact bne_self_eq_false m
  have HA : Hid ((w.alloc (.cells #[.slice A n c, .int .i64 h, .int .i64 N] 26)).heap[w.heap.size]? = some (.cells #[.slice A n c, .int .i64 h, .int .i64 N] 26 (0, 0))) := newA w _
  have HB := keepBa (startB w) (.cells #[.slice A n c, .int .i64 h, .int .i64 N] 26)
  clear hr hL hl hR hm
  go_enter Try.func46, Try.ntmps46
  have hz96 := zero96
  go_wp2_with (first | (go_at_call 43; refine (sound_any _ _ _ _ _ _ hnm).mono ?_; rintro e wS ⟨rfl, hb⟩; replace HA := keepA HA hb; replace HB := keepB HB hb; (try clear c0 c1 c2); have c0 := (cellA HA 0).trans rfl; have c1 := (cellA HA 1).trans rfl; have c2 := (cellA HA 2).trans rfl; clear hb) | (refine rowLoad rfl 26 _ rfl _ rfl HA.out Try.underlying26 rfl infoFree ?_) | (refine rowLoad rfl 26 _ rfl _ rfl (keepAa HA (.cells (List.replicate 96 (Value.bool false)).toArray 86)).out Try.underlying26 rfl infoFree ?_) | (go_at_call 23; refine (list_any A n c h N xs _ (HR.out.below (keepBa HB (.cells (List.replicate 96 (Value.bool false)).toArray 86)).out.1) hnm).mono ?_; rintro e wL ⟨⟨AL, cL, rfl, hrl⟩, hb⟩; simp only [HL.out, HLN.out] at hrl ⊢; have HG := Lib.hid HB.out.2; have HS := keepA (newA wS (.cells (List.replicate 96 (Value.bool false)).toArray 86)) hb; replace HB := keepB (keepBa HB (.cells (List.replicate 96 (Value.bool false)).toArray 86)) hb; have HRL := Lib.hid hrl; clear hrl hb c0 c1 c2))
  rw [← seen_nil] at HS
  clear hz96
  go_loopw [21] (fun i wr => ∃ k : Nat, k ≤ l ∧ i = .int .i64 k ∧ Hid (rtR m (L.drop k) (L.take k) = R) ∧ Hid (wr.heap[wS.heap.size]? = some (.cells (seenA (L.take k)) 86 (0, 0))) ∧ Hid (RdA .i64 wr AL l L) ∧ Hid (Below w.heap.size w wr ∧ w.heap.size ≤ wr.heap.size)) (fun i _ => l - (intOf i).toNat)
  case atStart => exact ⟨0, Nat.zero_le _, rfl, HRR, HS, HRL, HB⟩
  case round =>
    clear HA HB HS HRL e1
    obtain ⟨k, hk, rfl, HX, HS, HRL, HB⟩ := hrel
    by_cases hlt : k < l
    · obtain ⟨b, off, rfl, hc⟩ := HRL.out.2 (by omega)
      obtain ⟨x, hx⟩ : ∃ x, el L k = x := ⟨_, rfl⟩
      have c3 := hc k hlt
      rw [hx] at c3
      have hr2 := HX.out
      rw [drop_el (by rw [HLN.out]; exact hlt), hx, rtR] at hr2
      have HNE := Lib.hid (ne_seen HS.out HRL.out)
      by_cases h1 : x < 0
      · rw [if_pos (.inl h1)] at hr2
        subst hr2
        clear hc
        go_wp2
        go_ret
        exact ⟨rfl, HB.out.1⟩
      by_cases h2 : m ≤ x
      · rw [if_pos (.inr (.inl h2))] at hr2
        subst hr2
        clear hc
        go_wp2
        go_ret
        exact ⟨rfl, HB.out.1⟩
      obtain ⟨P, rfl⟩ := Int.eq_ofNat_of_zero_le (show 0 ≤ x by omega)
      have hP : P < 96 := by have := HM.out; omega
      have c4 := (cellA HS P).trans (seen_get _ hP)
      by_cases h3 : (P : Int) ∈ L.take k
      · rw [if_pos (.inr (.inr h3))] at hr2
        subst hr2
        rw [decide_eq_true h3] at c4
        clear hc h3
        go_wp2
        go_ret
        exact ⟨rfl, HB.out.1⟩
      · rw [if_neg (by rintro (q | q | q); exact h1 q; exact h2 q; exact h3 q)] at hr2
        rw [decide_eq_false h3] at c4
        have HX2 : Hid (rtR m (L.drop (k + 1)) (L.take (k + 1)) = R) := Lib.hid (by rw [take_el (by rw [HLN.out]; exact hlt), hx]; exact hr2)
        have HTK : Hid (L.take (k + 1) = L.take k ++ [(P : Int)]) := Lib.hid (by rw [take_el (by rw [HLN.out]; exact hlt), hx])
        clear hc h3 hr2 hx
        go_wp2_with (refine cellStore rfl 4 _ _ rfl wS.heap.size P rfl (.bool true) rfl rfl rfl HS.out (by rw [seen_size]; omega) infoBool ?_; intro w4 ha ho; replace HRL := Lib.hid (HRL.out.only2 ho HNE.out); replace HB := keepBo HB HG.out ho; clear HS; rw [seen_set] at ha; have HS := Lib.hid ha; clear ha ho)
        go_roundw
        case rel => exact ⟨k + 1, by omega, by go_num, HX2, by rw [HTK.out]; exact HS, HRL, HB⟩
        case measure => simp [intOf]; omega
    · have hr2 := HX.out
      rw [List.drop_eq_nil_of_le (by rw [HLN.out]; omega), rtR] at hr2
      subst hr2
      go_wp2
      go_ret
      exact ⟨rfl, HB.out.1⟩
theorem right_any (A : Option Addr) (n c : Nat) (h N m : Int) (xs : List Int) (w : World) (hr : RdA .i64 w A n xs) (hnm : n ≤ 9223372036854775807) : Calls Try.prog 46 #[.agg #[.slice A n c, .int .i64 h, .int .i64 N], .int .i64 m] w fun e w' => e = .returned (.bool (rightB xs n h N m)) ∧ Below w.heap.size w w' := by
  unfold rightB
  cases hs : soundB n h N with
  | false => exact right_no A n c h N m w hnm (.inl hs)
  | true =>
    by_cases hm : (n : Int) = m
    · rw [decide_eq_true hm]; exact right_yes A n c h N m xs w hr hnm hs hm
    · rw [decide_eq_false hm]; exact right_no A n c h N m w hnm (.inr hm)
set_option maxRecDepth 100000 in
set_option maxHeartbeats 4000000 in
theorem rright_yes (A : Option Addr) (n c : Nat) (h N m : Int) (xs : List Int) (w : World) (hr : RdA .i64 w A n xs) (hnm : n ≤ 9223372036854775807) (hs : soundB n h N = true) (hm : (n : Int) = m) : Calls Try.prog 51 #[.agg #[.slice A n c, .int .i64 h, .int .i64 N], .int .i64 m] w fun e w' => e = .returned (.bool (rtR m (ringL xs n h N) [])) ∧ Below w.heap.size w w' := by
  obtain ⟨hn9, _, _, _, _⟩ := sound_iff.1 hs
  obtain ⟨L, hL⟩ : ∃ L, ringL xs n h N = L := ⟨_, rfl⟩
  obtain ⟨l, hl⟩ : ∃ l, L.length = l := ⟨_, rfl⟩
  obtain ⟨R, hR⟩ : ∃ R, rtR m L [] = R := ⟨_, rfl⟩
  rw [hL, hR]
  have HL := Lib.hid hL
  have HLN := Lib.hid hl
  have HRR := Lib.hid hR
  have HR := Lib.hid hr
  have hl96 : l ≤ 96 := by
    rw [← hl, ← hL, ring_len hs]
    omega
  have e1 : ((n : Int) != m) = false := by rw [hm]; exact bne_self_eq_false m
  have HA : Hid ((w.alloc (.cells #[.slice A n c, .int .i64 h, .int .i64 N] 26)).heap[w.heap.size]? = some (.cells #[.slice A n c, .int .i64 h, .int .i64 N] 26 (0, 0))) := newA w _
  have HB := keepBa (startB w) (.cells #[.slice A n c, .int .i64 h, .int .i64 N] 26)
  clear hr hL hl hR hm
  go_enter Try.func51, Try.ntmps51
  go_wp2_with (first | (go_at_call 55; refine (is_any _ _ _ _ _ _ hnm).mono ?_; rintro e w1 ⟨rfl, hb⟩; replace HA := keepA HA hb; replace HB := keepB HB hb; (try clear c0 c1 c2); have c0 := (cellA HA 0).trans rfl; have c1 := (cellA HA 1).trans rfl; have c2 := (cellA HA 2).trans rfl; clear hb) | (refine rowLoad rfl 26 _ rfl _ rfl HA.out Try.underlying26 rfl infoFree ?_) | (go_at_call 58; refine (rlist_any A n c h N xs _ (HR.out.below HB.out.1) hnm).mono ?_; rintro e wL ⟨⟨AL, cL, rfl, hrl⟩, hb⟩; simp only [HL.out, HLN.out] at hrl ⊢; replace HB := keepB HB hb; have HRL := Lib.hid hrl; clear hrl hb c0 c1 c2))
  clear HA e1
  go_loopw [6] (fun i wr => ∃ k mm : Nat, k ≤ l ∧ i = .int .i64 k ∧ wr = wL.drewN mm ∧ Hid (rtR m (L.drop k) (L.take k) = R)) (fun i _ => l - (intOf i).toNat)
  case atStart => exact ⟨0, 0, Nat.zero_le _, rfl, rfl, HRR⟩
  case round =>
    obtain ⟨k, mm, hk, rfl, rfl, HX⟩ := hrel
    by_cases hlt : k < l
    · obtain ⟨b, off, rfl, hc⟩ := HRL.out.2 (by omega)
      obtain ⟨x, hx⟩ : ∃ x, el L k = x := ⟨_, rfl⟩
      have c3 := hc k hlt
      rw [hx] at c3
      have HC := Lib.hid hc
      have hr2 := HX.out
      rw [drop_el (by rw [HLN.out]; exact hlt), hx, rtR] at hr2
      by_cases h1 : x < 0
      · rw [if_pos (.inl h1)] at hr2
        subst hr2
        clear hc
        go_wp2
        go_ret
        exact ⟨rfl, below_dn HB.out.1 _⟩
      by_cases h2 : m ≤ x
      · rw [if_pos (.inr (.inl h2))] at hr2
        subst hr2
        clear hc
        go_wp2
        go_ret
        exact ⟨rfl, below_dn HB.out.1 _⟩
      have HR2 := Lib.hid hr2
      have HX0 := Lib.hid hx
      have H1 := Lib.hid h1
      have H2 := Lib.hid h2
      clear hc hr2 hx
      go_wp2
      clear c3
      go_loopw [7] (fun i wq => ∃ j m2 : Nat, j ≤ k ∧ i = .int .i64 j ∧ wq = wL.drewN m2 ∧ Hid (∀ i, i < j → el L i ≠ x)) (fun i _ => k - (intOf i).toNat)
      case atStart => exact ⟨0, mm, Nat.zero_le _, rfl, rfl, Lib.hid (fun i hi => by omega)⟩
      case round =>
      obtain ⟨j, m2, hj, rfl, rfl, HJ⟩ := hrel
      by_cases hjk : j < k
      · obtain ⟨y, hy⟩ : ∃ y, el L j = y := ⟨_, rfl⟩
        have c3 := HC.out k hlt
        have c4 := HC.out j (by omega)
        rw [HX0.out] at c3
        rw [hy] at c4
        by_cases hxy : y = x
        · have e5 : (y == x) = true := beq_iff_eq.2 hxy
          have hmem : x ∈ L.take k := by
            rw [← hxy, ← hy]
            have hjl : j < L.length := by rw [HLN.out]; omega
            have : (L.take k)[j]? = some (el L j) := by rw [List.getElem?_take_of_lt hjk]; exact el_at hjl
            exact List.mem_of_getElem? this
          have hr2 := HR2.out
          rw [if_pos (.inr (.inr hmem))] at hr2
          subst hr2
          clear hxy hmem hy
          go_wp2
          go_region
          go_wp2
          go_ret
          exact ⟨rfl, below_dn HB.out.1 _⟩
        · have e5 : (y == x) = false := beq_eq_false_iff_ne.2 hxy
          have HJ2 : Hid (∀ i, i < j + 1 → el L i ≠ x) := Lib.hid (fun i hi => by
            by_cases q : i < j
            · exact HJ.out i q
            · rw [show i = j by omega, hy]; exact hxy)
          clear hxy hy
          go_wp2
          go_region
          go_wp2
          go_roundw
          case rel => exact ⟨j + 1, _, by omega, by go_num, rfl, HJ2⟩
          case measure => simp [intOf]; omega
      · have hnm2 : ¬ x ∈ L.take k := fun q => by
          obtain ⟨i, hi, hq⟩ := List.mem_iff_getElem.1 q
          have hi2 : i < k := by have := List.length_take_le k L; omega
          have hil : i < L.length := by rw [HLN.out]; omega
          have : el L i = x := by
            have h5 : (L.take k)[i]? = some x := by rw [List.getElem?_eq_getElem hi, hq]
            rw [List.getElem?_take_of_lt hi2, el_at hil] at h5
            injection h5
          exact HJ.out i (by omega) this
        have hr2 := HR2.out
        rw [if_neg (by rintro (q | q | q); (have := H1.out; omega); (have := H2.out; omega); exact hnm2 q)] at hr2
        have HX2 : Hid (rtR m (L.drop (k + 1)) (L.take (k + 1)) = R) := Lib.hid (by rw [take_el (by rw [HLN.out]; exact hlt), HX0.out]; exact hr2)
        clear hr2 hnm2
        go_wp2
        go_roundw
        case rel => exact ⟨k + 1, _, by omega, by go_num, rfl, HX2⟩
        case measure => simp [intOf]; omega
    · have hr2 := HX.out
      rw [List.drop_eq_nil_of_le (by rw [HLN.out]; omega), rtR] at hr2
      subst hr2
      go_wp2
      go_ret
      exact ⟨rfl, below_dn HB.out.1 _⟩
theorem rright_any (A : Option Addr) (n c : Nat) (h N m : Int) (xs : List Int) (w : World) (hr : RdA .i64 w A n xs) (hnm : n ≤ 9223372036854775807) : Calls Try.prog 51 #[.agg #[.slice A n c, .int .i64 h, .int .i64 N], .int .i64 m] w fun e w' => e = .returned (.bool (rightB xs n h N m)) ∧ Below w.heap.size w w' := by
  unfold rightB
  cases hs : soundB n h N with
  | false => exact rright_no A n c h N m w hnm (.inl hs)
  | true =>
    by_cases hm : (n : Int) = m
    · rw [decide_eq_true hm]; exact rright_yes A n c h N m xs w hr hnm hs hm
    · rw [decide_eq_false hm]; exact rright_no A n c h N m w hnm (.inr hm)
end Go.Proofs.Ytpgighhnhidpcaa.My
