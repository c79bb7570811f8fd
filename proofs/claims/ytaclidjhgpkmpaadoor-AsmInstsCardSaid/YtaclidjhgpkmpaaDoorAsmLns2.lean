/- Walk: the lines of any text. -/
import Derived.Test.YtaclidjhgpkmpaaDoorAsmLns
set_option linter.unusedVariables false
namespace Go.Proofs.YtaclidjhgpkmpaaDoor.My
open Go.RowKit
theorem okc_10 : okc 10 = true := rfl
theorem okc_9 : okc 9 = true := rfl
theorem okc_mid {c : Nat} (h1 : 32 ≤ c) (h2 : c ≤ 126) : okc c = true := by unfold okc; rw [decide_eq_true ⟨h1, h2⟩]; rfl
theorem okc_bad {c : Nat} (h1 : ¬ (32 ≤ c ∧ c ≤ 126)) (h2 : c ≠ 9) (h3 : c ≠ 10) : okc c = false := by
  unfold okc
  rw [decide_eq_false h1, beq_eq_false_iff_ne.2 h2, beq_eq_false_iff_ne.2 h3]
  rfl
set_option maxRecDepth 100000 in
set_option maxHeartbeats 4000000 in
theorem lines_any (s : ByteArray) (w : World) (hm : s.size ≤ 1000000) : Calls Tryd.prog 24 #[.string s] w fun e w' => (∃ v, e = .returned (.tuple #[v, .int .i64 (linesV s).2]) ∧ Own w' w.heap.size v (linesV s).1) ∧ Below w.heap.size w w' := by
  obtain ⟨R, hR⟩ : ∃ R, linesV s = R := ⟨_, rfl⟩
  rw [hR]
  have HR := Lib.hid hR
  clear hR
  obtain ⟨N, hN⟩ : ∃ N, feedsR s s.size 0 = N := ⟨_, rfl⟩
  obtain ⟨Pl, hP⟩ : ∃ P, plainR s s.size 0 = P := ⟨_, rfl⟩
  have HN := Lib.hid hN
  have HP := Lib.hid hP
  clear hN hP
  have HB := keepBa (startB w) (.stringIter s 0)
  have HI : Hid ((w.iter s 0).heap[w.heap.size]? = some (.stringIter s 0)) := World.iter_heap w s 0
  go_enter Tryd.func24, Tryd.ntmps24
  go_wp2
  go_loopw [4, 5] (fun f p wr => ∃ (k n : Nat) (b : Bool), k ≤ s.size ∧ f = .int .i64 n ∧ p = .bool b ∧ n ≤ k ∧ Hid (n + feedsR s (s.size - k) k = N) ∧ Hid ((b && plainR s (s.size - k) k) = Pl) ∧ Hid (wr.heap[w.heap.size]? = some (.stringIter s k)) ∧ Hid (Below w.heap.size w wr ∧ w.heap.size ≤ wr.heap.size)) (fun _ _ wr => s.size - wr.iterPos w.heap.size)
  case atStart => exact ⟨0, 0, true, Nat.zero_le _, rfl, rfl, Nat.le_refl _, by show 0 + feedsR s (s.size - 0) 0 = N; rw [Nat.zero_add]; exact HN.out, by show (true && plainR s (s.size - 0) 0) = Pl; exact HP.out, HI, HB⟩
  case round =>
    clear HI HB
    obtain ⟨k, n, b, hks, rfl, rfl, hnk, HF, HQ, HI, HB⟩ := hrel
    obtain ⟨wo, rfl⟩ : ∃ wo, wo = wr := ⟨wr, rfl⟩
    have HI0 := HI
    by_cases hk : k < s.size
    · obtain ⟨c, hc⟩ : ∃ c, bAt s k = c := ⟨_, rfl⟩
      have HC : Hid (c = bAt s k) := Lib.hid hc.symm
      have hf := HF.out
      have hq := HQ.out
      by_cases hb : c < 128
      · rw [show s.size - k = (s.size - (k + 1)) + 1 by omega, feedsR, hc] at hf
        rw [show s.size - k = (s.size - (k + 1)) + 1 by omega, plainR, hc] at hq
        by_cases q : c = 10
        · rcases b with _ | _
          · subst q
            have HF2 : Hid (n + 1 + feedsR s (s.size - (k + 1)) (k + 1) = N) := Lib.hid (by rw [← hf]; rw [if_pos rfl]; omega)
            have HQ2 : Hid ((false && plainR s (s.size - (k + 1)) (k + 1)) = Pl) := Lib.hid (by rw [← hq, okc_10]; rfl)
            clear hf hq hc
            go_wp2_with (refine iterLow rfl _ rfl w.heap.size rfl HI.out hk (Eq.symm HC.out) hb ?_; intro w2 hi ho; replace HI := Lib.hid hi; replace HB := keepBo HB (Nat.le_refl _) ho; clear hi ho)
            go_roundw
            case rel => exact ⟨k + 1, n + 1, false, by omega, by first | rfl | go_num, by first | rfl | exact congrArg Value.bool (decide_eq_false (by omega)), by omega, HF2, HQ2, HI, HB⟩
            case measure => rw [pos_of HI.out, pos_of HI0.out]; omega
          · subst q
            have HF2 : Hid (n + 1 + feedsR s (s.size - (k + 1)) (k + 1) = N) := Lib.hid (by rw [← hf]; rw [if_pos rfl]; omega)
            have HQ2 : Hid ((true && plainR s (s.size - (k + 1)) (k + 1)) = Pl) := Lib.hid (by rw [← hq, okc_10]; rfl)
            clear hf hq hc
            go_wp2_with (refine iterLow rfl _ rfl w.heap.size rfl HI.out hk (Eq.symm HC.out) hb ?_; intro w2 hi ho; replace HI := Lib.hid hi; replace HB := keepBo HB (Nat.le_refl _) ho; clear hi ho)
            go_roundw
            case rel => exact ⟨k + 1, n + 1, true, by omega, by first | rfl | go_num, by first | rfl | exact congrArg Value.bool (decide_eq_false (by omega)), by omega, HF2, HQ2, HI, HB⟩
            case measure => rw [pos_of HI.out, pos_of HI0.out]; omega
        by_cases q : c = 9
        · rcases b with _ | _
          · subst q
            have HF2 : Hid (n + feedsR s (s.size - (k + 1)) (k + 1) = N) := Lib.hid (by rw [← hf]; rw [if_neg (by omega)]; omega)
            have HQ2 : Hid ((false && plainR s (s.size - (k + 1)) (k + 1)) = Pl) := Lib.hid (by rw [← hq, okc_9]; rfl)
            clear hf hq hc
            go_wp2_with (refine iterLow rfl _ rfl w.heap.size rfl HI.out hk (Eq.symm HC.out) hb ?_; intro w2 hi ho; replace HI := Lib.hid hi; replace HB := keepBo HB (Nat.le_refl _) ho; clear hi ho)
            go_roundw
            case rel => exact ⟨k + 1, n, false, by omega, by first | rfl | go_num, by first | rfl | exact congrArg Value.bool (decide_eq_false (by omega)), by omega, HF2, HQ2, HI, HB⟩
            case measure => rw [pos_of HI.out, pos_of HI0.out]; omega
          · subst q
            have HF2 : Hid (n + feedsR s (s.size - (k + 1)) (k + 1) = N) := Lib.hid (by rw [← hf]; rw [if_neg (by omega)]; omega)
            have HQ2 : Hid ((true && plainR s (s.size - (k + 1)) (k + 1)) = Pl) := Lib.hid (by rw [← hq, okc_9]; rfl)
            clear hf hq hc
            go_wp2_with (refine iterLow rfl _ rfl w.heap.size rfl HI.out hk (Eq.symm HC.out) hb ?_; intro w2 hi ho; replace HI := Lib.hid hi; replace HB := keepBo HB (Nat.le_refl _) ho; clear hi ho)
            go_roundw
            case rel => exact ⟨k + 1, n, true, by omega, by first | rfl | go_num, by first | rfl | exact congrArg Value.bool (decide_eq_false (by omega)), by omega, HF2, HQ2, HI, HB⟩
            case measure => rw [pos_of HI.out, pos_of HI0.out]; omega
        by_cases q : 32 ≤ c ∧ c ≤ 126
        · rcases b with _ | _
          · obtain ⟨g1, g2⟩ := q
            have q1 : ((c : Int) == 10) = false := beq_eq_false_iff_ne.2 (by omega)
            have HF2 : Hid (n + feedsR s (s.size - (k + 1)) (k + 1) = N) := Lib.hid (by rw [← hf]; rw [if_neg (by omega)]; omega)
            have HQ2 : Hid ((false && plainR s (s.size - (k + 1)) (k + 1)) = Pl) := Lib.hid (by rw [← hq, okc_mid g1 g2]; rfl)
            clear hf hq hc
            go_wp2_with (refine iterLow rfl _ rfl w.heap.size rfl HI.out hk (Eq.symm HC.out) hb ?_; intro w2 hi ho; replace HI := Lib.hid hi; replace HB := keepBo HB (Nat.le_refl _) ho; clear hi ho)
            go_roundw
            case rel => exact ⟨k + 1, n, false, by omega, by first | rfl | go_num, by first | rfl | exact congrArg Value.bool (decide_eq_false (by omega)), by omega, HF2, HQ2, HI, HB⟩
            case measure => rw [pos_of HI.out, pos_of HI0.out]; omega
          · obtain ⟨g1, g2⟩ := q
            have q1 : ((c : Int) == 10) = false := beq_eq_false_iff_ne.2 (by omega)
            have HF2 : Hid (n + feedsR s (s.size - (k + 1)) (k + 1) = N) := Lib.hid (by rw [← hf]; rw [if_neg (by omega)]; omega)
            have HQ2 : Hid ((true && plainR s (s.size - (k + 1)) (k + 1)) = Pl) := Lib.hid (by rw [← hq, okc_mid g1 g2]; rfl)
            clear hf hq hc
            go_wp2_with (refine iterLow rfl _ rfl w.heap.size rfl HI.out hk (Eq.symm HC.out) hb ?_; intro w2 hi ho; replace HI := Lib.hid hi; replace HB := keepBo HB (Nat.le_refl _) ho; clear hi ho)
            go_roundw
            case rel => exact ⟨k + 1, n, true, by omega, by first | rfl | go_num, by first | rfl | exact congrArg Value.bool (decide_eq_false (by omega)), by omega, HF2, HQ2, HI, HB⟩
            case measure => rw [pos_of HI.out, pos_of HI0.out]; omega
        have q1 : ((c : Int) == 10) = false := beq_eq_false_iff_ne.2 (by omega)
        have q2 : ((c : Int) == 9) = false := beq_eq_false_iff_ne.2 (by omega)
        have ob : okc c = false := okc_bad (by omega) (by omega) (by omega)
        rcases b with _ | _
        · have f10 : ¬ c = 10 := by omega
          have HF2 : Hid (n + feedsR s (s.size - (k + 1)) (k + 1) = N) := Lib.hid (by rw [← hf]; rw [if_neg (by omega)]; omega)
          have HQ2 : Hid ((false && plainR s (s.size - (k + 1)) (k + 1)) = Pl) := Lib.hid (by rw [← hq, ob]; rfl)
          clear hf hq hc
          go_wp2_with (refine iterLow rfl _ rfl w.heap.size rfl HI.out hk (Eq.symm HC.out) hb ?_; intro w2 hi ho; replace HI := Lib.hid hi; replace HB := keepBo HB (Nat.le_refl _) ho; clear hi ho)
          go_roundw
          case rel => exact ⟨k + 1, n, false, by omega, by first | rfl | go_num, by first | rfl | exact congrArg Value.bool (decide_eq_false (by omega)), by omega, HF2, HQ2, HI, HB⟩
          case measure => rw [pos_of HI.out, pos_of HI0.out]; omega
        · have f10 : ¬ c = 10 := by omega
          rcases (show c < 32 ∨ 126 < c by omega) with q3 | q3
          · have HF2 : Hid (n + feedsR s (s.size - (k + 1)) (k + 1) = N) := Lib.hid (by rw [← hf]; rw [if_neg (by omega)]; omega)
            have HQ2 : Hid ((false && plainR s (s.size - (k + 1)) (k + 1)) = Pl) := Lib.hid (by rw [← hq, ob]; rfl)
            clear hf hq hc
            go_wp2_with (refine iterLow rfl _ rfl w.heap.size rfl HI.out hk (Eq.symm HC.out) hb ?_; intro w2 hi ho; replace HI := Lib.hid hi; replace HB := keepBo HB (Nat.le_refl _) ho; clear hi ho)
            go_roundw
            case rel => exact ⟨k + 1, n, false, by omega, by first | rfl | go_num, by first | rfl | exact congrArg Value.bool (decide_eq_false (by omega)), by omega, HF2, HQ2, HI, HB⟩
            case measure => rw [pos_of HI.out, pos_of HI0.out]; omega
          · have HF2 : Hid (n + feedsR s (s.size - (k + 1)) (k + 1) = N) := Lib.hid (by rw [← hf]; rw [if_neg (by omega)]; omega)
            have HQ2 : Hid ((false && plainR s (s.size - (k + 1)) (k + 1)) = Pl) := Lib.hid (by rw [← hq, ob]; rfl)
            clear hf hq hc
            go_wp2_with (refine iterLow rfl _ rfl w.heap.size rfl HI.out hk (Eq.symm HC.out) hb ?_; intro w2 hi ho; replace HI := Lib.hid hi; replace HB := keepBo HB (Nat.le_refl _) ho; clear hi ho)
            go_roundw
            case rel => exact ⟨k + 1, n, false, by omega, by first | rfl | go_num, by first | rfl | exact congrArg Value.bool (decide_eq_false (by omega)), by omega, HF2, HQ2, HI, HB⟩
            case measure => rw [pos_of HI.out, pos_of HI0.out]; omega
      · have hb : 128 ≤ bAt s k := by rw [hc]; omega
        rcases b with _ | _
        all_goals
          clear hf hq hc
          go_wp2_with (refine iterHigh rfl _ rfl w.heap.size rfl HI.out hk hb ?_; intro r d w2 r1 r2 hdec d1 hi ho; replace HI := Lib.hid hi; replace HB := keepBo HB (Nat.le_refl _) ho; have HDEC := Lib.hid (decode_over hk hb hdec); have q1 : ((r : Int) == 10) = false := beq_eq_false_iff_ne.2 (by omega); have q2 : ((r : Int) == 9) = false := beq_eq_false_iff_ne.2 (by omega); clear hi ho hdec)
          go_roundw
          case rel => exact ⟨k + d, n, false, HDEC.out.1, rfl, by first | rfl | exact congrArg Value.bool (decide_eq_false (by omega)), by omega, by show n + feedsR s (s.size - (k + d)) (k + d) = N; rw [← feeds_skip s _ d k HDEC.out.2, ← HF.out]; congr 2; have := HDEC.out.1; omega, by show (false && _) = Pl; rw [← HQ.out, show s.size - k = (s.size - (k + d)) + d by have := HDEC.out.1; omega, plain_skip s _ d k d1 HDEC.out.2]; rfl, HI, HB⟩
          case measure => rw [pos_of HI.out, pos_of HI0.out]; have := HDEC.out.1; omega
    · have hf := HF.out
      have hq := HQ.out
      rw [show s.size - k = 0 by omega, feedsR, Nat.add_zero] at hf
      rw [show s.size - k = 0 by omega, plainR, Bool.and_true] at hq
      subst hf hq
      have eb : ∀ i (h : i < s.size), (s[i]'h).toNat = bAt s i := fun i h => bAt_eq h
      have ei : ((s.size : Int) - 1).toNat = s.size - 1 := by omega
      by_cases hlong : longL s
      · have hR' : R = ([], 4) := by rw [← HR.out]; unfold linesV; rw [if_pos hlong]
        subst hR'
        unfold longL at hlong
        rw [HN.out] at hlong
        by_cases h1 : 65536 < s.size
        · clear hlong
          go_wp2_with (refine iterEnd rfl _ rfl w.heap.size rfl HI.out hk ?_)
          go_ret2
          exact ⟨⟨_, rfl, own_nil _ _ _⟩, HB.out.1⟩
        · have h2 : 4096 < n := by omega
          clear hlong
          go_wp2_with (refine iterEnd rfl _ rfl w.heap.size rfl HI.out hk ?_)
          go_ret2
          exact ⟨⟨_, rfl, own_nil _ _ _⟩, HB.out.1⟩
      · have hlong2 := hlong
        unfold longL at hlong
        rw [HN.out] at hlong
        have h1 : ¬ 65536 < s.size := fun h => hlong (.inl h)
        have h2 : ¬ 4096 < n := fun h => hlong (.inr h)
        have HLO := Lib.hid hlong2
        clear hlong hlong2
        obtain ⟨c, hc⟩ : ∃ c, bAt s (s.size - 1) = c := ⟨_, rfl⟩
        by_cases hlast : 0 < s.size ∧ c ≠ 10
        · have hR' : R = ([], 2) := by rw [← HR.out]; unfold linesV; rw [if_neg HLO.out, if_pos (.inl ⟨hlast.1, by rw [hc]; exact hlast.2⟩)]
          subst hR'
          obtain ⟨l1, l2⟩ := hlast
          have e1 : (s.toList == []) = false := by rw [is_none]; exact beq_eq_false_iff_ne.2 (by omega)
          have e2 : ((c : Int) != 10) = true := bne_iff_ne.2 (by omega)
          clear l2
          go_wp2_with (refine iterEnd rfl _ rfl w.heap.size rfl HI.out hk ?_)
          go_ret2
          exact ⟨⟨_, rfl, own_nil _ _ _⟩, HB.out.1⟩
        · rcases b with _ | _
          · have hR' : R = ([], 2) := by rw [← HR.out]; unfold linesV; rw [if_neg HLO.out, if_pos (.inr HP.out)]
            subst hR'
            by_cases l1 : 0 < s.size
            · have e1 : (s.toList == []) = false := by rw [is_none]; exact beq_eq_false_iff_ne.2 (by omega)
              have l2 : c = 10 := by
                by_cases q : c = 10
                · exact q
                · exact absurd ⟨l1, q⟩ hlast
              clear hlast
              subst l2
              go_wp2_with (refine iterEnd rfl _ rfl w.heap.size rfl HI.out hk ?_)
              go_ret2
              exact ⟨⟨_, rfl, own_nil _ _ _⟩, HB.out.1⟩
            · have e1 : (s.toList == []) = true := by rw [is_none]; exact beq_iff_eq.2 (by omega)
              clear hlast hc
              go_wp2_with (refine iterEnd rfl _ rfl w.heap.size rfl HI.out hk ?_)
              go_ret2
              exact ⟨⟨_, rfl, own_nil _ _ _⟩, HB.out.1⟩
          · have hnf : ¬ formL s := by
              rintro (q | q)
              · exact hlast ⟨q.1, by rw [← hc]; exact q.2⟩
              · rw [HP.out] at q; cases q
            obtain ⟨LS, hL⟩ : ∃ LS, linesR s s.size 0 0 = LS := ⟨_, rfl⟩
            have hR' : R = (LS, 0) := by rw [← HR.out]; unfold linesV; rw [if_neg HLO.out, if_neg hnf, hL]
            subst hR'
            have HL := Lib.hid hL
            have HH := Lib.hid (plain_high s HP.out)
            have HG := Lib.hid HB.out.2
            have HI2 : Hid ((wo.iter s 0).heap[wo.heap.size]? = some (.stringIter s 0)) := World.iter_heap wo s 0
            have hB2 := keepBa HB (.stringIter s 0)
            clear hL hnf
            by_cases l1 : 0 < s.size
            · have e1 : (s.toList == []) = false := by rw [is_none]; exact beq_eq_false_iff_ne.2 (by omega)
              have l2 : c = 10 := by
                by_cases q : c = 10
                · exact q
                · exact absurd ⟨l1, q⟩ hlast
              clear hlast
              subst l2
              go_wp2_with (refine iterEnd rfl _ rfl w.heap.size rfl HI.out hk ?_)
              clear eb ei e1
              go_loopw [8, 9] (fun o fr wq => ∃ (j F : Nat) (ws : List ByteArray), j ≤ s.size ∧ fr = .int .i64 F ∧ F ≤ j ∧ ws.length ≤ j ∧ Hid (ws ++ linesR s (s.size - j) j F = LS) ∧ Hid (Own wq (wo.heap.size + 1) o ws) ∧ Hid (wq.heap[wo.heap.size]? = some (.stringIter s j)) ∧ Hid (Below w.heap.size w wq ∧ w.heap.size ≤ wq.heap.size)) (fun _ _ wq => s.size - wq.iterPos wo.heap.size)
              case atStart => exact ⟨0, 0, [], Nat.zero_le _, rfl, Nat.le_refl _, Nat.le_refl _, HL, Lib.hid (own_nil _ _ _), HI2, hB2⟩
              case round =>
              clear HI2 hB2 HB hk
              obtain ⟨j, F, ws, hjs, rfl, hF, hl, HX, HO, HI2, HB⟩ := hrel
              have HI3 := HI2
              by_cases hk : j < s.size
              · obtain ⟨c, hc⟩ : ∃ c, bAt s j = c := ⟨_, rfl⟩
                have HC : Hid (c = bAt s j) := Lib.hid hc.symm
                have hb : c < 128 := by rw [← hc]; exact HH.out j hk
                have hx := HX.out
                rw [show s.size - j = (s.size - (j + 1)) + 1 by omega, linesR, hc] at hx
                by_cases h10 : c = 10
                · rw [if_pos h10, List.append_cons] at hx
                  have HX2 := Lib.hid hx
                  clear hx hc
                  subst h10
                  go_wp2_with (first | (refine iterLow rfl _ rfl wo.heap.size rfl HI2.out hk (Eq.symm HC.out) hb ?_; intro w2 hi ho; replace HI2 := Lib.hid hi; replace HB := keepBo HB HG.out ho; replace HO := Lib.hid (own_only HO.out (Nat.lt_succ_self _) ho); clear hi ho) | (refine appOne rfl _ _ 55 9 (.string ⟨#[]⟩) 16 rfl Tryd.underlying55 infoStr rfl (wo.heap.size + 1) _ ws.length (ws.map .string) rfl HO.out _ rfl _ rfl (by unfold maxLen; omega) (by omega) (Array.getElem?_eq_some_iff.1 HI2.out).1 ?_; intro v2 w3 ho2 hb2; replace HO := Lib.hid (own_add ho2); replace HI2 := keepAg HI2 (Nat.lt_succ_self _) hb2; replace HB := keepBg HB (Nat.le_trans HG.out (Nat.le_succ _)) hb2; clear ho2 hb2))
                  go_roundw
                  case rel => exact ⟨j + 1, j + 1, ws ++ [s.extract F j], by omega, by go_num, by omega, by rw [List.length_append]; simp; omega, HX2, HO, HI2, HB⟩
                  case measure => rw [pos_of HI2.out, pos_of HI3.out]; omega
                · rw [if_neg h10] at hx
                  have HX2 := Lib.hid hx
                  have q1 : ((c : Int) == 10) = false := beq_eq_false_iff_ne.2 (by omega)
                  clear hx hc h10
                  go_wp2_with (refine iterLow rfl _ rfl wo.heap.size rfl HI2.out hk (Eq.symm HC.out) hb ?_; intro w2 hi ho; replace HI2 := Lib.hid hi; replace HB := keepBo HB HG.out ho; replace HO := Lib.hid (own_only HO.out (Nat.lt_succ_self _) ho); clear hi ho)
                  go_roundw
                  case rel => exact ⟨j + 1, F, ws, by omega, rfl, by omega, by omega, HX2, HO, HI2, HB⟩
                  case measure => rw [pos_of HI2.out, pos_of HI3.out]; omega
              · have hx := HX.out
                rw [show s.size - j = 0 by omega, linesR, List.append_nil] at hx
                have HX2 := Lib.hid hx
                clear hx
                go_wp2_with (refine iterEnd rfl _ rfl wo.heap.size rfl HI2.out hk ?_)
                go_ret2
                exact ⟨⟨_, rfl, by rw [← HX2.out]; exact own_weak HO.out (Nat.le_trans HG.out (Nat.le_succ _))⟩, HB.out.1⟩
            · have e1 : (s.toList == []) = true := by rw [is_none]; exact beq_iff_eq.2 (by omega)
              clear hlast hc
              go_wp2_with (refine iterEnd rfl _ rfl w.heap.size rfl HI.out hk ?_)
              clear eb ei e1
              go_loopw [8, 9] (fun o fr wq => ∃ (j F : Nat) (ws : List ByteArray), j ≤ s.size ∧ fr = .int .i64 F ∧ F ≤ j ∧ ws.length ≤ j ∧ Hid (ws ++ linesR s (s.size - j) j F = LS) ∧ Hid (Own wq (wo.heap.size + 1) o ws) ∧ Hid (wq.heap[wo.heap.size]? = some (.stringIter s j)) ∧ Hid (Below w.heap.size w wq ∧ w.heap.size ≤ wq.heap.size)) (fun _ _ wq => s.size - wq.iterPos wo.heap.size)
              case atStart => exact ⟨0, 0, [], Nat.zero_le _, rfl, Nat.le_refl _, Nat.le_refl _, HL, Lib.hid (own_nil _ _ _), HI2, hB2⟩
              case round =>
              clear HI2 hB2 HB hk
              obtain ⟨j, F, ws, hjs, rfl, hF, hl, HX, HO, HI2, HB⟩ := hrel
              have HI3 := HI2
              by_cases hk : j < s.size
              · exfalso; omega
              · have hx := HX.out
                rw [show s.size - j = 0 by omega, linesR, List.append_nil] at hx
                have HX2 := Lib.hid hx
                clear hx
                go_wp2_with (refine iterEnd rfl _ rfl wo.heap.size rfl HI2.out hk ?_)
                go_ret2
                exact ⟨⟨_, rfl, by rw [← HX2.out]; exact own_weak HO.out (Nat.le_trans HG.out (Nat.le_succ _))⟩, HB.out.1⟩
end Go.Proofs.YtaclidjhgpkmpaaDoor.My
