/- Walk over the reference: the lines of any text. -/
import Derived.Test.YtfpidpdhheickaaNumLines2
set_option linter.unusedVariables false
namespace Go.Proofs.Ytfpidpdhheickaa.My
open Go.RowKit
theorem plain_ok {s : ByteArray} (h : plainR s s.size 0 = true) : ∀ i, i < s.size → okc (bAt s i) = true := by
  have key : ∀ b i, plainR s b i = true → ∀ j, i ≤ j → j < i + b → okc (bAt s j) = true := by
    intro b
    induction b with
    | zero => intro i _ j h1 h2; omega
    | succ b ih =>
      intro i h j h1 h2
      rw [plainR, Bool.and_eq_true] at h
      by_cases q : j = i
      · subst q; exact h.1
      · exact ih (i + 1) h.2 j (by omega) (by omega)
  exact fun i hi => key s.size 0 h i (Nat.zero_le _) (by omega)
theorem plain_all {s : ByteArray} (h : ∀ i, i < s.size → okc (bAt s i) = true) : plainR s s.size 0 = true := by
  have key : ∀ b i, i + b ≤ s.size → plainR s b i = true := by
    intro b
    induction b with
    | zero => intro i _; rfl
    | succ b ih =>
      intro i hi
      rw [plainR, h i (by omega), ih (i + 1) (by omega)]; rfl
  exact key s.size 0 (by omega)
set_option maxHeartbeats 4000000 in
theorem rlines_any (s : ByteArray) (w : World) (hm : s.size ≤ 1000000) : Calls Try.prog 20 #[.string s] w fun e w' => (∃ v, e = .returned (.tuple #[v, .int .i64 (linesV s).2]) ∧ Own w' w.heap.size v (linesV s).1) ∧ Below w.heap.size w w' := by
  obtain ⟨R, hR⟩ : ∃ R, linesV s = R := ⟨_, rfl⟩
  rw [hR]
  have HR := Lib.hid hR
  clear hR
  obtain ⟨N, hN⟩ : ∃ N, feedsR s s.size 0 = N := ⟨_, rfl⟩
  have HN := Lib.hid hN
  clear hN
  have eb : ∀ i (h : i < s.size), (s[i]'h).toNat = bAt s i := fun i h => bAt_eq h
  have HB := startB w
  go_enter Try.func20, Try.ntmps20
  go_wp2
  go_loop [4, 5] (fun f i => ∃ (k n : Nat), k ≤ s.size ∧ f = .int .i64 n ∧ i = .int .i64 k ∧ n ≤ k ∧ Hid (n + feedsR s (s.size - k) k = N)) (fun _ i => s.size - (intOf i).toNat)
  case atStart => exact ⟨0, 0, Nat.zero_le _, rfl, rfl, Nat.le_refl _, by show 0 + feedsR s (s.size - 0) 0 = N; rw [Nat.zero_add]; exact HN.out⟩
  case round =>
    obtain ⟨k, n, hks, rfl, rfl, hnk, HF⟩ := hrel
    by_cases hk : k < s.size
    · obtain ⟨c, hc⟩ : ∃ c, bAt s k = c := ⟨_, rfl⟩
      have hf := HF.out
      rw [show s.size - k = (s.size - (k + 1)) + 1 by omega, feedsR, hc] at hf
      by_cases q : c = 10
      · subst q
        have HF2 : Hid (n + 1 + feedsR s (s.size - (k + 1)) (k + 1) = N) := Lib.hid (by rw [← hf, if_pos rfl]; omega)
        clear hf
        go_wp2
        go_round
        case rel => exact ⟨k + 1, n + 1, by omega, by go_num, by go_num, by omega, HF2⟩
        case measure => simp [intOf]; omega
      · have HF2 : Hid (n + feedsR s (s.size - (k + 1)) (k + 1) = N) := Lib.hid (by rw [← hf, if_neg q]; omega)
        have q1 : ((c : Int) == 10) = false := beq_eq_false_iff_ne.2 (by omega)
        clear hf q
        go_wp2
        go_round
        case rel => exact ⟨k + 1, n, by omega, rfl, by go_num, by omega, HF2⟩
        case measure => simp [intOf]; omega
    · have hf := HF.out
      rw [show s.size - k = 0 by omega, feedsR, Nat.add_zero] at hf
      subst hf
      have ei : ((s.size : Int) - 1).toNat = s.size - 1 := by omega
      by_cases hlong : longL s
      · have hR' : R = ([], 4) := by rw [← HR.out]; unfold linesV; rw [if_pos hlong]
        subst hR'
        unfold longL at hlong
        rw [HN.out] at hlong
        by_cases h1 : 65536 < s.size
        · clear hlong
          go_wp2
          go_ret2
          exact ⟨⟨_, rfl, own_empty _⟩, (keepBa HB _).out.1⟩
        · have h2 : 4096 < n := by omega
          clear hlong
          go_wp2
          go_ret2
          exact ⟨⟨_, rfl, own_empty _⟩, (keepBa HB _).out.1⟩
      · have hlong2 := hlong
        unfold longL at hlong
        rw [HN.out] at hlong
        have h1 : ¬ 65536 < s.size := fun h => hlong (.inl h)
        have h2 : ¬ 4096 < n := fun h => hlong (.inr h)
        have HLO := Lib.hid hlong2
        clear hlong hlong2
        obtain ⟨c, hc⟩ : ∃ c, bAt s (s.size - 1) = c := ⟨_, rfl⟩
        by_cases hlast : 0 < s.size ∧ c ≠ 10
        · have hR' : R = ([], 2) := by rw [← HR.out]; unfold linesV; rw [if_neg HLO.out, if_pos (.inl ⟨hlast.1, by rw [hc]; exact hlast.2⟩)]
          subst hR'
          obtain ⟨l1, l2⟩ := hlast
          have e2 : ((c : Int) != 10) = true := bne_iff_ne.2 (by omega)
          clear l2
          go_wp2
          go_ret2
          exact ⟨⟨_, rfl, own_empty _⟩, (keepBa HB _).out.1⟩
        · obtain ⟨LS, hL⟩ : ∃ LS, linesR s s.size 0 0 = LS := ⟨_, rfl⟩
          have hla : ¬ (0 < s.size ∧ bAt s (s.size - 1) ≠ 10) := fun q => hlast ⟨q.1, by rw [← hc]; exact q.2⟩
          have hRy : plainR s s.size 0 = true → R = (LS, 0) := fun h => by
            rw [← HR.out]; unfold linesV
            rw [if_neg HLO.out, if_neg (by rintro (q | q); exact hla q; rw [h] at q; cases q), hL]
          have hRn : plainR s s.size 0 = false → R = ([], 2) := fun h => by
            rw [← HR.out]; unfold linesV
            rw [if_neg HLO.out, if_pos (.inr h)]
          have HRY := Lib.hid hRy
          have HRN := Lib.hid hRn
          have HL := Lib.hid hL
          have hB2 := keepBa HB (.cells #[] 9)
          clear hL hla hRy hRn HB
          by_cases l1 : 0 < s.size
          · have l2 : c = 10 := by
              by_cases q : c = 10
              · exact q
              · exact absurd ⟨l1, q⟩ hlast
            clear hlast
            subst l2
            go_wp2
            clear hc ei
            go_loopw [6, 7, 8] (fun o fr i wq => ∃ (j F : Nat) (ws : List ByteArray), j ≤ s.size ∧ fr = .int .i64 F ∧ i = .int .i64 j ∧ F ≤ j ∧ ws.length ≤ j ∧ Hid (∀ i, i < j → okc (bAt s i) = true) ∧ Hid (ws ++ linesR s (s.size - j) j F = LS) ∧ Hid (Own wq w.heap.size o ws) ∧ Hid (Below w.heap.size w wq ∧ w.heap.size ≤ wq.heap.size)) (fun _ _ i _ => s.size - (intOf i).toNat)
            case atStart => exact ⟨0, 0, [], Nat.zero_le _, rfl, rfl, Nat.le_refl _, Nat.le_refl _, Lib.hid (fun i hi => by omega), HL, Lib.hid (own_empty _), hB2⟩
            case round =>
            clear hB2 hk
            obtain ⟨j, F, ws, hjs, rfl, rfl, hF, hl, HOK, HX, HO, HB⟩ := hrel
            by_cases hk : j < s.size
            · obtain ⟨c, hc⟩ : ∃ c, bAt s j = c := ⟨_, rfl⟩
              have c1 := bAt_lt s j
              rw [hc] at c1
              have hx := HX.out
              rw [show s.size - j = (s.size - (j + 1)) + 1 by omega, linesR, hc] at hx
              have hok : okc c = true → Hid (∀ i, i < j + 1 → okc (bAt s i) = true) := fun h => Lib.hid (fun i hi => by
                by_cases q : i < j
                · exact HOK.out i q
                · rw [show i = j by omega, hc]; exact h)
              by_cases h10 : c = 10
              · rw [if_pos h10, List.append_cons] at hx
                have HX2 := Lib.hid hx
                have HOK2 := hok (by rw [h10]; rfl)
                clear hx hok
                subst h10
                go_wp2_with (refine appOne rfl _ _ 34 9 (.string ⟨#[]⟩) 16 rfl Try.underlying34 infoStr rfl w.heap.size _ ws.length (ws.map .string) rfl HO.out _ rfl _ rfl (by unfold maxLen; omega) (by omega) HB.out.2 ?_; intro v2 w3 ho2 hb2; replace HO := Lib.hid (own_add ho2); replace HB := keepBg HB (Nat.le_refl _) hb2; clear ho2 hb2)
                go_roundw
                case rel => exact ⟨j + 1, j + 1, ws ++ [s.extract F j], by omega, by go_num, by go_num, by omega, by rw [List.length_append]; simp; omega, HOK2, HX2, HO, HB⟩
                case measure => simp [intOf]; omega
              · rw [if_neg h10] at hx
                have HX2 := Lib.hid hx
                by_cases h9 : c = 9
                · have HOK2 := hok (by rw [h9]; rfl)
                  clear hx hok h10
                  subst h9
                  go_wp2
                  go_roundw
                  case rel => exact ⟨j + 1, F, ws, by omega, rfl, by go_num, by omega, by omega, HOK2, HX2, HO, HB⟩
                  case measure => simp [intOf]; omega
                · have q1 : ((c : Int) == 10) = false := beq_eq_false_iff_ne.2 (by omega)
                  have q2 : ((c : Int) != 10) = true := bne_iff_ne.2 (by omega)
                  have q3 : ((c : Int) != 9) = true := bne_iff_ne.2 (by omega)
                  by_cases hmid : 32 ≤ c ∧ c ≤ 126
                  · have HOK2 := hok (okc_mid hmid.1 hmid.2)
                    obtain ⟨g1, g2⟩ := hmid
                    clear hx hok h10 h9
                    go_wp2
                    go_roundw
                    case rel => exact ⟨j + 1, F, ws, by omega, rfl, by go_num, by omega, by omega, HOK2, HX2, HO, HB⟩
                    case measure => simp [intOf]; omega
                  · have hbad : plainR s s.size 0 = false := by
                      cases hp : plainR s s.size 0 with
                      | false => rfl
                      | true => have := plain_ok hp j hk; rw [hc, okc_bad hmid h9 h10] at this; cases this
                    have hR' := HRN.out hbad
                    subst hR'
                    clear hx hok h10 h9 hbad
                    rcases (show c < 32 ∨ 126 < c by omega) with g | g
                    all_goals
                      clear hmid
                      go_wp2
                      go_ret2
                      exact ⟨⟨_, rfl, own_weak (own_empty _) HB.out.2⟩, (keepBa HB _).out.1⟩
            · have hx := HX.out
              rw [show s.size - j = 0 by omega, linesR, List.append_nil] at hx
              have hR' := HRY.out (plain_all fun i hi => HOK.out i (by omega))
              subst hR'
              have HX2 := Lib.hid hx
              clear hx
              go_wp2
              go_ret2
              exact ⟨⟨_, rfl, by rw [← HX2.out]; exact HO.out⟩, HB.out.1⟩
          · have hR' := HRY.out (plain_all fun i hi => by omega)
            have hL0 : LS = [] := by rw [← HL.out, show s.size = 0 by omega]; rfl
            subst hR' hL0
            clear hlast hc
            go_wp2
            refine wp_loop_rounds 1 ?_
            rw [rounds_succ]
            go_wp2
            go_ret2
            exact ⟨⟨_, rfl, own_empty _⟩, hB2.out.1⟩
end Go.Proofs.Ytfpidpdhheickaa.My
