/- Walk over the reference: the words of any text. -/
import Derived.Test.YtfpidpdhheickaaNumTexts
set_option linter.unusedVariables false
namespace Go.Proofs.Ytfpidpdhheickaa.My
open Go.RowKit
theorem rbtw_any (c : Nat) (t : Bool) (w : World) (h : btw c = t) (h1 : c < 256) : Calls Try.prog 26 #[.int .u8 c] w fun e w' => e = .returned (.bool t) ∧ w = w' := by
  by_cases q1 : c = 32
  · subst q1
    obtain rfl : t = true := by rw [← h]; rfl
    go_enter Try.func26, Try.ntmps26
    go_wp2
    go_ret
    exact ⟨rfl, rfl⟩
  by_cases q2 : c = 9
  · subst q2
    obtain rfl : t = true := by rw [← h]; rfl
    go_enter Try.func26, Try.ntmps26
    go_wp2
    go_ret
    exact ⟨rfl, rfl⟩
  by_cases q3 : c = 44
  · subst q3
    obtain rfl : t = true := by rw [← h]; rfl
    go_enter Try.func26, Try.ntmps26
    go_wp2
    go_ret
    exact ⟨rfl, rfl⟩
  · have e1 : ((c : Int) == 32) = false := beq_eq_false_iff_ne.2 (by omega)
    have e2 : ((c : Int) == 9) = false := beq_eq_false_iff_ne.2 (by omega)
    have e3 : ((c : Int) == 44) = false := beq_eq_false_iff_ne.2 (by omega)
    obtain rfl : t = false := by
      rw [← h]; unfold btw
      rw [beq_eq_false_iff_ne.2 q1, beq_eq_false_iff_ne.2 q2, beq_eq_false_iff_ne.2 q3]; rfl
    clear q1 q2 q3 h
    go_enter Try.func26, Try.ntmps26
    go_wp2
    go_ret
    exact ⟨rfl, rfl⟩
theorem words_fst (s : ByteArray) (b i : Nat) (f : Option Nat) (h : btw (bAt s i) = false) : wordsR s (b + 1) i f = wordsR s b (i + 1) (some (f.getD i)) := by
  cases f <;> rw [wordsR, h, if_neg (by decide)] <;> rfl
theorem own_empty (w : World) : Own (w.alloc (.cells #[] 9)) w.heap.size (.slice (some ⟨w.heap.size, 0, none⟩) 0 0) [] :=
  ⟨rfl, .inr ⟨w.heap.size, 0, #[], rfl, Nat.le_refl _, heap_alloc_new _ _, Nat.le_refl _, Nat.zero_le _, rfl, rfl⟩⟩
def fo (F k : Nat) : Option Nat := if F < k then some F else none
theorem fo_get {F k : Nat} (h : F ≤ k) : (fo F k).getD k = F := by
  unfold fo
  by_cases q : F < k
  · rw [if_pos q]; rfl
  · rw [if_neg q]; show k = F; omega
set_option maxHeartbeats 1000000 in
theorem rwords_any (s : ByteArray) (w : World) (hm : s.size ≤ 1000000) : Calls Try.prog 18 #[.string s] w fun e w' => (∃ v, e = .returned v ∧ Own w' w.heap.size v (wordsL s)) ∧ Below w.heap.size w w' := by
  obtain ⟨WS, hW⟩ : ∃ WS, wordsL s = WS := ⟨_, rfl⟩
  rw [hW]
  have HW := Lib.hid hW
  clear hW
  have eb : ∀ i (h : i < s.size), (s[i]'h).toNat = bAt s i := fun i h => bAt_eq h
  have HB := startB w
  go_enter Try.func18, Try.ntmps18
  go_wp2
  go_loopw [3, 4, 5] (fun o fr i wr => ∃ (k F : Nat) (ws : List ByteArray), k ≤ s.size + 1 ∧ i = .int .i64 k ∧ fr = .int .i64 F ∧ F ≤ k ∧ ws.length ≤ k ∧ Hid (k ≤ s.size → ws ++ wordsR s (s.size - k) k (fo F k) = WS) ∧ Hid (¬ k ≤ s.size → ws = WS) ∧ Hid (Own wr w.heap.size o ws) ∧ Hid (Below w.heap.size w wr ∧ w.heap.size ≤ wr.heap.size)) (fun _ _ i _ => s.size + 1 - (intOf i).toNat)
  case atStart =>
    exact ⟨0, 0, [], Nat.zero_le _, rfl, rfl, Nat.le_refl _, Nat.le_refl _, Lib.hid (fun _ => HW.out), Lib.hid (fun h => absurd (Nat.zero_le _) h), Lib.hid (own_empty _), keepBa HB _⟩
  case round =>
    clear HB
    obtain ⟨k, F, ws, hks, rfl, rfl, hF, hl, HX, HZ, HO, HB⟩ := hrel
    by_cases hk : k < s.size
    · obtain ⟨c, hc⟩ : ∃ c, bAt s k = c := ⟨_, rfl⟩
      have c1 := bAt_lt s k
      rw [hc] at c1
      have hx := HX.out (by omega)
      rw [show s.size - k = (s.size - (k + 1)) + 1 by omega] at hx
      by_cases hbt : btw c = true
      · have HT := Lib.hid hbt
        by_cases hfk : F < k
        · rw [show fo F k = some F from if_pos hfk, wordsR, hc, if_pos hbt, List.append_cons] at hx
          have HX2 := Lib.hid hx
          clear hx hbt
          go_wp2_with (first | (go_at_call 26; refine (rbtw_any _ _ _ HT.out c1).mono ?_; rintro e w3 ⟨rfl, rfl⟩) | (refine appOne rfl _ _ 34 9 (.string ⟨#[]⟩) 16 rfl Try.underlying34 infoStr rfl w.heap.size _ ws.length (ws.map .string) rfl HO.out _ rfl _ rfl (by unfold maxLen; omega) (by omega) HB.out.2 ?_; intro v2 w3 ho2 hb2; replace HO := Lib.hid (own_add ho2); replace HB := keepBg HB (Nat.le_refl _) hb2; clear ho2 hb2))
          go_roundw
          case rel => exact ⟨k + 1, k + 1, ws ++ [s.extract F k], by omega, by go_num, by go_num, by omega, by rw [List.length_append]; simp; omega, Lib.hid (fun _ => by rw [show fo (k + 1) (k + 1) = none from if_neg (by omega)]; exact HX2.out), Lib.hid (fun h => by omega), HO, HB⟩
          case measure => simp [intOf]; omega
        · rw [show fo F k = none from if_neg hfk, wordsR, hc, if_pos hbt] at hx
          have HX2 := Lib.hid hx
          clear hx hbt
          go_wp2_with (go_at_call 26; refine (rbtw_any _ _ _ HT.out c1).mono ?_; rintro e w3 ⟨rfl, rfl⟩)
          go_roundw
          case rel => exact ⟨k + 1, k + 1, ws, by omega, by go_num, by go_num, by omega, by omega, Lib.hid (fun _ => by rw [show fo (k + 1) (k + 1) = none from if_neg (by omega)]; exact HX2.out), Lib.hid (fun h => by omega), HO, HB⟩
          case measure => simp [intOf]; omega
      · have hbf : btw c = false := by simpa using hbt
        have HT := Lib.hid hbf
        rw [words_fst _ _ _ _ (by rw [hc]; exact hbf), fo_get hF] at hx
        have HX2 := Lib.hid hx
        clear hx hbt hbf
        go_wp2_with (go_at_call 26; refine (rbtw_any _ _ _ HT.out c1).mono ?_; rintro e w3 ⟨rfl, rfl⟩)
        go_roundw
        case rel => exact ⟨k + 1, F, ws, by omega, by go_num, rfl, by omega, by omega, Lib.hid (fun _ => by rw [show fo F (k + 1) = some F from if_pos (by omega)]; exact HX2.out), Lib.hid (fun h => by omega), HO, HB⟩
        case measure => simp [intOf]; omega
    · by_cases hk2 : k = s.size
      · have hx := HX.out (by omega)
        rw [show s.size - k = 0 by omega] at hx
        by_cases hfk : F < k
        · rw [show fo F k = some F from if_pos hfk, wordsR, ← hk2] at hx
          have HX2 := Lib.hid hx
          clear hx
          have hk3 : (k : Int) ≤ s.size := by omega
          have HK := Lib.hid hk2
          clear hk2
          go_wp2_with (first | (go_at_call 26; refine (rbtw_any _ _ _ HT.out c1).mono ?_; rintro e w3 ⟨rfl, rfl⟩) | (refine appOne rfl _ _ 34 9 (.string ⟨#[]⟩) 16 rfl Try.underlying34 infoStr rfl w.heap.size _ ws.length (ws.map .string) rfl HO.out _ rfl _ rfl (by unfold maxLen; omega) (by omega) HB.out.2 ?_; intro v2 w3 ho2 hb2; replace HO := Lib.hid (own_add ho2); replace HB := keepBg HB (Nat.le_refl _) hb2; clear ho2 hb2))
          go_roundw
          case rel => exact ⟨k + 1, k + 1, ws ++ [s.extract F k], by omega, by go_num, by go_num, by omega, by rw [List.length_append]; simp; omega, Lib.hid (fun h => by omega), Lib.hid (fun _ => HX2.out), HO, HB⟩
          case measure => simp [intOf]; omega
        · rw [show fo F k = none from if_neg hfk, wordsR, List.append_nil] at hx
          have HX2 := Lib.hid hx
          clear hx
          have hk3 : (k : Int) ≤ s.size := by omega
          have HK := Lib.hid hk2
          clear hk2
          go_wp2_with (go_at_call 26; refine (rbtw_any _ _ _ HT.out c1).mono ?_; rintro e w3 ⟨rfl, rfl⟩)
          go_roundw
          case rel => exact ⟨k + 1, k + 1, ws, by omega, by go_num, by go_num, by omega, by omega, Lib.hid (fun h => by omega), Lib.hid (fun _ => HX2.out), HO, HB⟩
          case measure => simp [intOf]; omega
      · have hx := HZ.out (by omega)
        have HX2 := Lib.hid hx
        clear hx
        go_wp2
        go_ret
        exact ⟨⟨_, rfl, by rw [← HX2.out]; exact HO.out⟩, HB.out.1⟩
end Go.Proofs.Ytfpidpdhheickaa.My
