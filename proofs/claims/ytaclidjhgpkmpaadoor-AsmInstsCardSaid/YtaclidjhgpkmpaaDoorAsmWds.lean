/- Walk: the words of any text. -/
import Derived.Test.YtaclidjhgpkmpaaDoorAsmHex
import Derived.Test.YtaclidjhgpkmpaaDoorAppWords
set_option linter.unusedVariables false
namespace Go.Proofs.YtaclidjhgpkmpaaDoor.My
open Go.RowKit
/-- Does a byte stand between words? -/
def btw (c : Nat) : Bool := c == 32 || c == 9 || c == 44
/-- The words from place i on, so many bytes, where one has begun at f. -/
def wordsR (s : ByteArray) : Nat → Nat → Option Nat → List ByteArray
  | 0, _, none => []
  | 0, _, some F => [s.extract F s.size]
  | b + 1, i, none => if btw (bAt s i) = true then wordsR s b (i + 1) none else wordsR s b (i + 1) (some i)
  | b + 1, i, some F => if btw (bAt s i) = true then s.extract F i :: wordsR s b (i + 1) none else wordsR s b (i + 1) (some F)
def wordsL (s : ByteArray) : List ByteArray := wordsR s s.size 0 none
theorem btw_high {c : Nat} (h : 128 ≤ c) : btw c = false := by
  unfold btw
  rw [beq_eq_false_iff_ne.2 (by omega), beq_eq_false_iff_ne.2 (by omega), beq_eq_false_iff_ne.2 (by omega)]
  rfl
theorem words_skip (s : ByteArray) (b F : Nat) : ∀ (d i : Nat), (∀ k, k < d → 128 ≤ bAt s (i + k)) → wordsR s (b + d) i (some F) = wordsR s b (i + d) (some F)
  | 0, i, _ => rfl
  | d + 1, i, h => by
    have e := words_skip s b F d (i + 1) (fun k hk => by rw [Nat.add_assoc, Nat.add_comm 1 k]; exact h (k + 1) (by omega))
    have h0 := btw_high (h 0 (by omega))
    rw [Nat.add_zero] at h0
    rw [show b + (d + 1) = (b + d) + 1 by omega, wordsR, h0, if_neg (by decide), e, show i + 1 + d = i + (d + 1) by omega]
theorem words_over {s : ByteArray} {d i : Nat} (f : Option Nat) (h : ∀ k, k < d → 128 ≤ bAt s (i + k)) (h1 : 1 ≤ d) (h2 : i + d ≤ s.size) : wordsR s (s.size - i) i f = wordsR s (s.size - (i + d)) (i + d) (some (f.getD i)) := by
  obtain ⟨m, rfl⟩ : ∃ m, d = m + 1 := ⟨d - 1, by omega⟩
  have e := words_skip s (s.size - (i + (m + 1))) (f.getD i) m (i + 1) (fun k hk => by rw [Nat.add_assoc, Nat.add_comm 1 k]; exact h (k + 1) (by omega))
  have h0 := btw_high (h 0 (by omega))
  rw [Nat.add_zero] at h0
  rw [show i + (m + 1) = i + 1 + m by omega] at e ⊢
  rw [← e, show s.size - i = (s.size - (i + 1 + m) + m) + 1 by omega]
  cases f with
  | none => rw [wordsR, h0, if_neg (by decide)]; rfl
  | some F => rw [wordsR, h0, if_neg (by decide)]; rfl
def fromZ : Option Nat → Int
  | none => -1
  | some F => F
theorem infoStr : (Tryd.prog.info? 9).map (fun i => (i.zero, i.size, i.bytes)) = some (some (.string ⟨#[]⟩), 1, 16) := by kernel_rfl
/-- A slice of texts that the call has made. -/
abbrev Own (w : World) (B : Nat) (v : Value) (ws : List ByteArray) : Prop := w.ownsRow B 9 1 v ws.length (ws.map Value.string)
theorem own_add {w : World} {B : Nat} {v : Value} {ws : List ByteArray} {x : ByteArray} (h : w.ownsRow B 9 1 v (ws.length + 1) (ws.map Value.string ++ [.string x])) : Own w B v (ws ++ [x]) := by
  unfold Own
  rw [List.length_append, List.map_append]
  exact h
set_option maxRecDepth 100000 in
set_option maxHeartbeats 1600000 in
theorem words_any (s : ByteArray) (w : World) (hm : s.size ≤ 1000000) : Calls Tryd.prog 37 #[.string s] w fun e w' => (∃ v, e = .returned v ∧ Own w' w.heap.size v (wordsL s)) ∧ Below w.heap.size w w' := by
  obtain ⟨WS, hW⟩ : ∃ WS, wordsL s = WS := ⟨_, rfl⟩
  rw [hW]
  have HW := Lib.hid hW
  clear hW
  have HB := keepBa (startB w) (.stringIter s 0)
  have HI : Hid ((w.iter s 0).heap[w.heap.size]? = some (.stringIter s 0)) := World.iter_heap w s 0
  go_enter Tryd.func37, Tryd.ntmps37
  go_wp2
  go_loopw [3, 4] (fun o fr wr => ∃ (k : Nat) (f : Option Nat) (ws : List ByteArray), k ≤ s.size ∧ fr = .int .i64 (fromZ f) ∧ (∀ F, f = some F → F < k) ∧ ws.length ≤ k ∧ Hid (ws ++ wordsR s (s.size - k) k f = WS) ∧ Hid (Own wr (w.heap.size + 1) o ws) ∧ Hid (wr.heap[w.heap.size]? = some (.stringIter s k)) ∧ Hid (Below w.heap.size w wr ∧ w.heap.size ≤ wr.heap.size)) (fun _ _ wr => s.size - wr.iterPos w.heap.size)
  case atStart => exact ⟨0, none, [], Nat.zero_le _, rfl, (fun F h => by cases h), Nat.le_refl _, HW, Lib.hid (own_nil _ _ _), HI, HB⟩
  case round =>
    clear HI HB
    obtain ⟨k, f, ws, hks, hfr, hF, hl, HX, HO, HI, HB⟩ := hrel
    have HI0 := HI
    by_cases hk : k < s.size
    · obtain ⟨c, hc⟩ : ∃ c, bAt s k = c := ⟨_, rfl⟩
      have HC : Hid (c = bAt s k) := Lib.hid hc.symm
      have hx := HX.out
      by_cases hbt : btw c = true
      · have hb : c < 128 := by
          by_cases q : c < 128
          · exact q
          · rw [btw_high (by omega)] at hbt; cases hbt
        have h3 : c = 32 ∨ c = 9 ∨ c = 44 := by simpa [btw, or_assoc] using hbt
        rw [show s.size - k = (s.size - (k + 1)) + 1 by omega] at hx
        rcases f with _ | F
        · replace hfr : _ = Value.int .i64 (-1) := hfr
          subst hfr
          rw [wordsR, hc, if_pos hbt] at hx
          have HX := Lib.hid hx
          clear hx hc hF hbt
          rcases h3 with rfl | rfl | rfl
          all_goals
            go_wp2_with (refine iterLow rfl _ rfl w.heap.size rfl HI.out hk (Eq.symm HC.out) hb ?_; intro w2 hi ho; replace HI := Lib.hid hi; replace HB := keepBo HB (Nat.le_refl _) ho; replace HO := Lib.hid (own_only HO.out (Nat.lt_succ_self _) ho); clear hi ho)
            go_roundw
            case rel => exact ⟨k + 1, none, ws, by omega, rfl, (fun F h => by cases h), by omega, HX, HO, HI, HB⟩
            case measure => rw [pos_of HI.out, pos_of HI0.out]; omega
        · replace hfr : _ = Value.int .i64 (F : Int) := hfr
          subst hfr
          have hFk := hF F rfl
          rw [wordsR, hc, if_pos hbt, List.append_cons] at hx
          have HX := Lib.hid hx
          clear hx hc hF hbt
          rcases h3 with rfl | rfl | rfl
          all_goals
            go_wp2_with (first | (refine iterLow rfl _ rfl w.heap.size rfl HI.out hk (Eq.symm HC.out) hb ?_; intro w2 hi ho; replace HI := Lib.hid hi; replace HB := keepBo HB (Nat.le_refl _) ho; replace HO := Lib.hid (own_only HO.out (Nat.lt_succ_self _) ho); clear hi ho) | (refine appOne rfl _ _ 55 9 (.string ⟨#[]⟩) 16 rfl Tryd.underlying55 infoStr rfl (w.heap.size + 1) _ ws.length (ws.map .string) rfl HO.out _ rfl _ rfl (by unfold maxLen; omega) (by omega) (Array.getElem?_eq_some_iff.1 HI.out).1 ?_; intro v2 w3 ho2 hb2; replace HO := Lib.hid (own_add ho2); replace HI := keepAg HI (Nat.lt_succ_self _) hb2; replace HB := keepBg HB (Nat.le_succ _) hb2; clear ho2 hb2))
            go_roundw
            case rel => exact ⟨k + 1, none, ws ++ [s.extract F k], by omega, rfl, (fun F h => by cases h), by rw [List.length_append]; simp; omega, HX, HO, HI, HB⟩
            case measure => rw [pos_of HI.out, pos_of HI0.out]; omega
      · have h3 : ¬ c = 32 ∧ ¬ c = 9 ∧ ¬ c = 44 := by simpa [btw, not_or, and_assoc] using hbt
        by_cases hb : c < 128
        · have q1 : ((c : Int) == 32) = false := beq_eq_false_iff_ne.2 (by omega)
          have q2 : ((c : Int) == 9) = false := beq_eq_false_iff_ne.2 (by omega)
          have q3 : ((c : Int) == 44) = false := beq_eq_false_iff_ne.2 (by omega)
          rw [show s.size - k = (s.size - (k + 1)) + 1 by omega] at hx
          rcases f with _ | F
          · replace hfr : _ = Value.int .i64 (-1) := hfr
            subst hfr
            rw [wordsR, hc, if_neg hbt] at hx
            have HX := Lib.hid hx
            clear hx hc hF hbt h3
            go_wp2_with (refine iterLow rfl _ rfl w.heap.size rfl HI.out hk (Eq.symm HC.out) hb ?_; intro w2 hi ho; replace HI := Lib.hid hi; replace HB := keepBo HB (Nat.le_refl _) ho; replace HO := Lib.hid (own_only HO.out (Nat.lt_succ_self _) ho); clear hi ho)
            go_roundw
            case rel => exact ⟨k + 1, some k, ws, by omega, rfl, (fun F h => by cases h; omega), by omega, HX, HO, HI, HB⟩
            case measure => rw [pos_of HI.out, pos_of HI0.out]; omega
          · replace hfr : _ = Value.int .i64 (F : Int) := hfr
            subst hfr
            have hFk := hF F rfl
            rw [wordsR, hc, if_neg hbt] at hx
            have HX := Lib.hid hx
            clear hx hc hF hbt h3
            go_wp2_with (refine iterLow rfl _ rfl w.heap.size rfl HI.out hk (Eq.symm HC.out) hb ?_; intro w2 hi ho; replace HI := Lib.hid hi; replace HB := keepBo HB (Nat.le_refl _) ho; replace HO := Lib.hid (own_only HO.out (Nat.lt_succ_self _) ho); clear hi ho)
            go_roundw
            case rel => exact ⟨k + 1, some F, ws, by omega, rfl, (fun F h => by cases h; omega), by omega, HX, HO, HI, HB⟩
            case measure => rw [pos_of HI.out, pos_of HI0.out]; omega
        · have hb : 128 ≤ bAt s k := by rw [hc]; omega
          rcases f with _ | F
          · replace hfr : _ = Value.int .i64 (-1) := hfr
            subst hfr
            clear hx hc hF hbt h3
            go_wp2_with (refine iterHigh rfl _ rfl w.heap.size rfl HI.out hk hb ?_; intro r d w2 r1 r2 hdec d1 hi ho; replace HI := Lib.hid hi; replace HB := keepBo HB (Nat.le_refl _) ho; replace HO := Lib.hid (own_only HO.out (Nat.lt_succ_self _) ho); have HDEC := Lib.hid (decode_over hk hb hdec); have q1 : ((r : Int) == 32) = false := beq_eq_false_iff_ne.2 (by omega); have q2 : ((r : Int) == 9) = false := beq_eq_false_iff_ne.2 (by omega); have q3 : ((r : Int) == 44) = false := beq_eq_false_iff_ne.2 (by omega); clear hi ho hdec)
            go_roundw
            case rel => exact ⟨k + d, some k, ws, HDEC.out.1, rfl, (fun F h => by cases h; omega), by omega, by show ws ++ wordsR s (s.size - (k + d)) (k + d) (some k) = WS; rw [← HX.out, words_over none HDEC.out.2 d1 HDEC.out.1]; rfl, HO, HI, HB⟩
            case measure => rw [pos_of HI.out, pos_of HI0.out]; have := HDEC.out.1; omega
          · replace hfr : _ = Value.int .i64 (F : Int) := hfr
            subst hfr
            have hFk := hF F rfl
            clear hx hc hF hbt h3
            go_wp2_with (refine iterHigh rfl _ rfl w.heap.size rfl HI.out hk hb ?_; intro r d w2 r1 r2 hdec d1 hi ho; replace HI := Lib.hid hi; replace HB := keepBo HB (Nat.le_refl _) ho; replace HO := Lib.hid (own_only HO.out (Nat.lt_succ_self _) ho); have HDEC := Lib.hid (decode_over hk hb hdec); have q1 : ((r : Int) == 32) = false := beq_eq_false_iff_ne.2 (by omega); have q2 : ((r : Int) == 9) = false := beq_eq_false_iff_ne.2 (by omega); have q3 : ((r : Int) == 44) = false := beq_eq_false_iff_ne.2 (by omega); clear hi ho hdec)
            go_roundw
            case rel => exact ⟨k + d, some F, ws, HDEC.out.1, rfl, (fun F h => by cases h; omega), by omega, by show ws ++ wordsR s (s.size - (k + d)) (k + d) (some F) = WS; rw [← HX.out, words_over (some F) HDEC.out.2 d1 HDEC.out.1]; rfl, HO, HI, HB⟩
            case measure => rw [pos_of HI.out, pos_of HI0.out]; have := HDEC.out.1; omega
    · have hx := HX.out
      rw [show s.size - k = 0 by omega] at hx
      rcases f with _ | F
      · replace hfr : _ = Value.int .i64 (-1) := hfr
        subst hfr
        rw [wordsR, List.append_nil] at hx
        have HX := Lib.hid hx
        clear hx hF
        go_wp2_with (refine iterEnd rfl _ rfl w.heap.size rfl HI.out hk ?_)
        go_ret
        exact ⟨⟨_, rfl, by rw [← HX.out]; exact own_weak HO.out (Nat.le_succ _)⟩, HB.out.1⟩
      · replace hfr : _ = Value.int .i64 (F : Int) := hfr
        subst hfr
        have hFk := hF F rfl
        rw [wordsR] at hx
        have HX := Lib.hid hx
        clear hx hF
        go_wp2_with (first | (refine iterEnd rfl _ rfl w.heap.size rfl HI.out hk ?_) | (refine appOne rfl _ _ 55 9 (.string ⟨#[]⟩) 16 rfl Tryd.underlying55 infoStr rfl (w.heap.size + 1) _ ws.length (ws.map .string) rfl HO.out _ rfl _ rfl (by unfold maxLen; omega) (by omega) (Array.getElem?_eq_some_iff.1 HI.out).1 ?_; intro v2 w3 ho2 hb2; replace HO := Lib.hid (own_add ho2); replace HB := keepBg HB (Nat.le_succ _) hb2; clear ho2 hb2))
        go_ret
        exact ⟨⟨_, rfl, by rw [← HX.out]; exact own_weak HO.out (Nat.le_succ _)⟩, HB.out.1⟩
end Go.Proofs.YtaclidjhgpkmpaaDoor.My
