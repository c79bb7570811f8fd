/- The law of joined words and lines: the walk, the gap [32]. -/
import Derived.Test.YtfpidpdhheickaaNumJoined2
set_option linter.unusedVariables false
namespace Go.Proofs.Ytfpidpdhheickaa.My
open Go.RowKit
set_option maxRecDepth 100000 in
set_option maxHeartbeats 4000000 in
theorem joined_0 (A : Option Addr) (ss : List ByteArray) (c : Nat) (b : Int) (w : World) (hA : RdX w A ss) (hn : ss.length ≤ 40) (hs : ∀ x ∈ ss, x.size ≤ maxLen) (em : b.tmod 4 = 0) : Calls Try.prog 8 #[.slice A ss.length c, .int .u8 b] w fun e w' => e = .returned (.bool true) ∧ Below w.heap.size w w' := by
  have HA := Lib.hid hA
  have HS := Lib.hid hs
  obtain ⟨n, hn2⟩ : ∃ n, ss.length = n := ⟨_, rfl⟩
  have HN := Lib.hid hn2
  rw [hn2] at hn ⊢
  have hgs : ByteArray.size ⟨#[32]⟩ = 1 := rfl
  have hns : ByteArray.size ⟨#[10]⟩ = 1 := rfl
  clear hA hs hn2
  have HB := keepBa (keepBa (startB w) (.cells #[] 9)) (.cells #[] 9)
  go_enter Try.func8, Try.ntmps8
  go_wp2
  clear em
  go_loopw [6, 7, 8, 9, 10] (fun o6 o7 o8 o9 o10 wr => ∃ (k : Nat) (ws ls : List ByteArray) (Aa Bb : ByteArray), k ≤ n ∧ o10 = .int .i64 k ∧ o8 = .string Aa ∧ o9 = .string Bb ∧ ws.length ≤ k ∧ ls.length ≤ k ∧ Hid (joinW [32] ws = Aa) ∧ Hid (joinL ls = Bb) ∧ Hid (∀ x ∈ ws, okW x) ∧ Hid (∀ x ∈ ls, okL x) ∧ Hid (Own wr w.heap.size o6 ws) ∧ Hid (Own wr w.heap.size o7 ls) ∧ Hid (o7.ownBlock = none ∨ o7.ownBlock ≠ o6.ownBlock) ∧ Hid (Below w.heap.size w wr ∧ w.heap.size ≤ wr.heap.size)) (fun _ _ _ _ o10 _ => n - (intOf o10).toNat)
  case atStart => exact ⟨0, [], [], _, _, Nat.zero_le _, rfl, rfl, rfl, Nat.le_refl _, Nat.le_refl _, Lib.hid rfl, Lib.hid rfl, Lib.hid (fun x hx => by cases hx), Lib.hid (fun x hx => by cases hx), Lib.hid (own_two w).1, Lib.hid (own_two w).2, Lib.hid (.inr (fun q => by simp [Value.ownBlock] at q)), HB⟩
  case round =>
    clear HB
    obtain ⟨k, ws, ls, Aa, Bb, hk, rfl, rfl, rfl, hwl, hll, HJ, HK, HW, HL, HO6, HO7, HD, HB⟩ := hrel
    have ha : Aa.size ≤ 2100 := by rw [← HJ.out]; have := joinW_size [32] (by decide) ws (fun x hx => (HW.out x hx).1); omega
    have hbb : Bb.size ≤ 2100 := by rw [← HK.out]; have := joinL_size ls (fun x hx => (HL.out x hx).1); omega
    by_cases hlt : k < n
    · obtain ⟨x, hx⟩ : ∃ x, ss[k]? = some x := ⟨_, List.getElem?_eq_getElem (by rw [HN.out]; exact hlt)⟩
      have hxm : x.size ≤ 9223372036854775807 := HS.out x (List.mem_of_getElem? hx)
      obtain ⟨ad, rfl, hc⟩ := HA.out (by rw [HN.out]; omega)
      have HXC := Lib.hid (hc k x hx)
      have hx0 := cellB HB.out.1 HXC.out
      clear hc hx HA HS HN
      by_cases hlong : 50 < x.size
      · clear HW HL HO6 HO7 HD HJ HK
        go_wp2_with (go_at_call 13; refine (awake_any _).mono ?_; rintro e w1 ⟨rfl, hb⟩; replace HB := keepB HB hb; clear hb)
        go_ret
        exact ⟨rfl, HB.out.1⟩
      obtain ⟨p1, hp1⟩ : ∃ p, plainB x false = p := ⟨_, rfl⟩
      obtain ⟨p2, hp2⟩ : ∃ p, plainB x true = p := ⟨_, rfl⟩
      have HP1 := Lib.hid (fun w => plain_any x false p1 w hp1 hxm)
      have HP2 := Lib.hid (fun w => plain_any x true p2 w hp2 hxm)
      have hJ2 : joinW [32] (ws ++ [x]) = Aa ++ x ++ ⟨#[32]⟩ := by rw [← HJ.out]; exact (joinW_step _ _ _).symm
      have hK2 : joinL (ls ++ [x]) = Bb ++ x ++ ⟨#[10]⟩ := by rw [← HK.out]; exact (joinL_step _ _).symm
      have HJ2 := Lib.hid hJ2
      have HK2 := Lib.hid hK2
      clear hJ2 hK2
      by_cases hz : x.size = 0
      · have e0 : (x.toList == []) = true := by rw [is_none]; exact beq_iff_eq.2 hz
        clear HP1
        cases p2 with
        | true =>
          have HL2 := Lib.hid (mem_snoc HL.out (show okL x from ⟨by omega, hp2⟩))
          clear hp1 hp2 hz
          go_wp2_with (first | (go_at_call 21; refine (HP2.out _).mono ?_; clear HP2; rintro e w1 ⟨rfl, rfl⟩) | (refine appTwo rfl _ _ 34 9 (.string ⟨#[]⟩) 16 rfl Try.underlying34 infoStr rfl w.heap.size _ ls.length (ls.map .string) rfl HO7.out _ rfl _ rfl ?_ ?_ ?_ _ _ _ HO6.out ?_ ?_; (unfold maxLen; omega); omega; exact HB.out.2; exact dj_symm HD.out; intro v4 w4 h6 h7 h8 hb2; replace HO7 := Lib.hid (own_add h6); replace HO6 := Lib.hid h7; replace HD := Lib.hid (dj_symm h8); replace HB := keepBg HB (Nat.le_refl _) hb2; have hx4 := cellB HB.out.1 HXC.out; clear h6 h7 h8 hb2) | (refine strAddA rfl _ _ _ _ rfl Aa x rfl rfl (by omega) ?_; intro q1 hq1 hsq1; have HQ1 := Lib.hid hq1; clear hq1) | (refine strAddA rfl _ _ _ _ rfl q1 ⟨#[32]⟩ rfl rfl (by omega) ?_; intro q2 hq2 hsq2; have HQ2 := Lib.hid hq2; clear hq2) | (refine strAddA rfl _ _ _ _ rfl Bb x rfl rfl (by omega) ?_; intro q3 hq3 hsq3; have HQ3 := Lib.hid hq3; clear hq3) | (refine strAddA rfl _ _ _ _ rfl q3 ⟨#[10]⟩ rfl rfl (by omega) ?_; intro q4 hq4 hsq4; have HQ4 := Lib.hid hq4; clear hq4))
          go_roundw
          case rel => exact ⟨k + 1, ws, ls ++ [x], Aa, q4, by omega, by go_num, rfl, rfl, by omega, by rw [List.length_append]; simp; omega, HJ, Lib.hid (by rw [HK2.out, HQ3.out, HQ4.out]), HW, HL2, HO6, HO7, HD, HB⟩
          case measure => simp [intOf]; omega
        | false =>
          clear hp1 hp2 hz
          go_wp2_with (first | (go_at_call 21; refine (HP2.out _).mono ?_; clear HP2; rintro e w1 ⟨rfl, rfl⟩))
          go_roundw
          case rel => exact ⟨k + 1, ws, ls, Aa, Bb, by omega, by go_num, rfl, rfl, by omega, by omega, HJ, HK, HW, HL, HO6, HO7, HD, HB⟩
          case measure => simp [intOf]; omega
      · have e0 : (x.toList == []) = false := by rw [is_none]; exact beq_eq_false_iff_ne.2 hz
        cases p1 with
        | true =>
          have HW2 := Lib.hid (mem_snoc HW.out (show okW x from ⟨by omega, hz, hp1⟩))
          cases p2 with
          | true =>
            have HL2 := Lib.hid (mem_snoc HL.out (show okL x from ⟨by omega, hp2⟩))
            clear hp1 hp2 hz
            go_wp2_with (first | (go_at_call 21; refine (HP1.out _).mono ?_; clear HP1; rintro e w1 ⟨rfl, rfl⟩) | (go_at_call 21; refine (HP2.out _).mono ?_; clear HP2; rintro e w1 ⟨rfl, rfl⟩) | (refine appTwo rfl _ _ 34 9 (.string ⟨#[]⟩) 16 rfl Try.underlying34 infoStr rfl w.heap.size _ ws.length (ws.map .string) rfl HO6.out _ rfl _ rfl ?_ ?_ ?_ _ _ _ HO7.out ?_ ?_; (unfold maxLen; omega); omega; exact HB.out.2; exact HD.out; intro v3 w3 h6 h7 h8 hb2; replace HO6 := Lib.hid (own_add h6); replace HO7 := Lib.hid h7; replace HD := Lib.hid h8; replace HB := keepBg HB (Nat.le_refl _) hb2; have hx3 := cellB HB.out.1 HXC.out; clear h6 h7 h8 hb2) | (refine appTwo rfl _ _ 34 9 (.string ⟨#[]⟩) 16 rfl Try.underlying34 infoStr rfl w.heap.size _ ls.length (ls.map .string) rfl HO7.out _ rfl _ rfl ?_ ?_ ?_ _ _ _ HO6.out ?_ ?_; (unfold maxLen; omega); omega; exact HB.out.2; exact dj_symm HD.out; intro v4 w4 h6 h7 h8 hb2; replace HO7 := Lib.hid (own_add h6); replace HO6 := Lib.hid h7; replace HD := Lib.hid (dj_symm h8); replace HB := keepBg HB (Nat.le_refl _) hb2; have hx4 := cellB HB.out.1 HXC.out; clear h6 h7 h8 hb2) | (refine strAddA rfl _ _ _ _ rfl Aa x rfl rfl (by omega) ?_; intro q1 hq1 hsq1; have HQ1 := Lib.hid hq1; clear hq1) | (refine strAddA rfl _ _ _ _ rfl q1 ⟨#[32]⟩ rfl rfl (by omega) ?_; intro q2 hq2 hsq2; have HQ2 := Lib.hid hq2; clear hq2) | (refine strAddA rfl _ _ _ _ rfl Bb x rfl rfl (by omega) ?_; intro q3 hq3 hsq3; have HQ3 := Lib.hid hq3; clear hq3) | (refine strAddA rfl _ _ _ _ rfl q3 ⟨#[10]⟩ rfl rfl (by omega) ?_; intro q4 hq4 hsq4; have HQ4 := Lib.hid hq4; clear hq4))
            go_roundw
            case rel => exact ⟨k + 1, ws ++ [x], ls ++ [x], q2, q4, by omega, by go_num, rfl, rfl, by rw [List.length_append]; simp; omega, by rw [List.length_append]; simp; omega, Lib.hid (by rw [HJ2.out, HQ1.out, HQ2.out]), Lib.hid (by rw [HK2.out, HQ3.out, HQ4.out]), HW2, HL2, HO6, HO7, HD, HB⟩
            case measure => simp [intOf]; omega
          | false =>
            clear hp1 hp2 hz
            go_wp2_with (first | (go_at_call 21; refine (HP1.out _).mono ?_; clear HP1; rintro e w1 ⟨rfl, rfl⟩) | (go_at_call 21; refine (HP2.out _).mono ?_; clear HP2; rintro e w1 ⟨rfl, rfl⟩) | (refine appTwo rfl _ _ 34 9 (.string ⟨#[]⟩) 16 rfl Try.underlying34 infoStr rfl w.heap.size _ ws.length (ws.map .string) rfl HO6.out _ rfl _ rfl ?_ ?_ ?_ _ _ _ HO7.out ?_ ?_; (unfold maxLen; omega); omega; exact HB.out.2; exact HD.out; intro v3 w3 h6 h7 h8 hb2; replace HO6 := Lib.hid (own_add h6); replace HO7 := Lib.hid h7; replace HD := Lib.hid h8; replace HB := keepBg HB (Nat.le_refl _) hb2; have hx3 := cellB HB.out.1 HXC.out; clear h6 h7 h8 hb2) | (refine strAddA rfl _ _ _ _ rfl Aa x rfl rfl (by omega) ?_; intro q1 hq1 hsq1; have HQ1 := Lib.hid hq1; clear hq1) | (refine strAddA rfl _ _ _ _ rfl q1 ⟨#[32]⟩ rfl rfl (by omega) ?_; intro q2 hq2 hsq2; have HQ2 := Lib.hid hq2; clear hq2) | (refine strAddA rfl _ _ _ _ rfl Bb x rfl rfl (by omega) ?_; intro q3 hq3 hsq3; have HQ3 := Lib.hid hq3; clear hq3) | (refine strAddA rfl _ _ _ _ rfl q3 ⟨#[10]⟩ rfl rfl (by omega) ?_; intro q4 hq4 hsq4; have HQ4 := Lib.hid hq4; clear hq4))
            go_roundw
            case rel => exact ⟨k + 1, ws ++ [x], ls, q2, Bb, by omega, by go_num, rfl, rfl, by rw [List.length_append]; simp; omega, by omega, Lib.hid (by rw [HJ2.out, HQ1.out, HQ2.out]), HK, HW2, HL, HO6, HO7, HD, HB⟩
            case measure => simp [intOf]; omega
        | false =>
          cases p2 with
          | true =>
            have HL2 := Lib.hid (mem_snoc HL.out (show okL x from ⟨by omega, hp2⟩))
            clear hp1 hp2 hz
            go_wp2_with (first | (go_at_call 21; refine (HP1.out _).mono ?_; clear HP1; rintro e w1 ⟨rfl, rfl⟩) | (go_at_call 21; refine (HP2.out _).mono ?_; clear HP2; rintro e w1 ⟨rfl, rfl⟩) | (refine appTwo rfl _ _ 34 9 (.string ⟨#[]⟩) 16 rfl Try.underlying34 infoStr rfl w.heap.size _ ls.length (ls.map .string) rfl HO7.out _ rfl _ rfl ?_ ?_ ?_ _ _ _ HO6.out ?_ ?_; (unfold maxLen; omega); omega; exact HB.out.2; exact dj_symm HD.out; intro v4 w4 h6 h7 h8 hb2; replace HO7 := Lib.hid (own_add h6); replace HO6 := Lib.hid h7; replace HD := Lib.hid (dj_symm h8); replace HB := keepBg HB (Nat.le_refl _) hb2; have hx4 := cellB HB.out.1 HXC.out; clear h6 h7 h8 hb2) | (refine strAddA rfl _ _ _ _ rfl Aa x rfl rfl (by omega) ?_; intro q1 hq1 hsq1; have HQ1 := Lib.hid hq1; clear hq1) | (refine strAddA rfl _ _ _ _ rfl q1 ⟨#[32]⟩ rfl rfl (by omega) ?_; intro q2 hq2 hsq2; have HQ2 := Lib.hid hq2; clear hq2) | (refine strAddA rfl _ _ _ _ rfl Bb x rfl rfl (by omega) ?_; intro q3 hq3 hsq3; have HQ3 := Lib.hid hq3; clear hq3) | (refine strAddA rfl _ _ _ _ rfl q3 ⟨#[10]⟩ rfl rfl (by omega) ?_; intro q4 hq4 hsq4; have HQ4 := Lib.hid hq4; clear hq4))
            go_roundw
            case rel => exact ⟨k + 1, ws, ls ++ [x], Aa, q4, by omega, by go_num, rfl, rfl, by omega, by rw [List.length_append]; simp; omega, HJ, Lib.hid (by rw [HK2.out, HQ3.out, HQ4.out]), HW, HL2, HO6, HO7, HD, HB⟩
            case measure => simp [intOf]; omega
          | false =>
            clear hp1 hp2 hz
            go_wp2_with (first | (go_at_call 21; refine (HP1.out _).mono ?_; clear HP1; rintro e w1 ⟨rfl, rfl⟩) | (go_at_call 21; refine (HP2.out _).mono ?_; clear HP2; rintro e w1 ⟨rfl, rfl⟩))
            go_roundw
            case rel => exact ⟨k + 1, ws, ls, Aa, Bb, by omega, by go_num, rfl, rfl, by omega, by omega, HJ, HK, HW, HL, HO6, HO7, HD, HB⟩
            case measure => simp [intOf]; omega
    · have hw1 : wordsL Aa = ws := by rw [← HJ.out]; exact words_of (by decide) (by decide) HW.out
      have hl1 : linesV Bb = (ls, 0) := by rw [← HK.out]; exact lines_of (by omega) HL.out
      have a1 : ∀ w, Calls Try.prog 19 #[.string Bb] w fun e w' => (∃ v, e = .returned (.tuple #[v, .int .i64 0]) ∧ Own w' w.heap.size v ls) ∧ Below w.heap.size w w' := fun w => by have := lines_any Bb w (by omega); rw [hl1] at this; exact this
      have a2 : ∀ w, Calls Try.prog 17 #[.string Aa] w fun e w' => (∃ v, e = .returned v ∧ Own w' w.heap.size v ws) ∧ Below w.heap.size w w' := fun w => by have := words_any Aa w (by omega); rw [hw1] at this; exact this
      have A1 := Lib.hid a1
      have A2 := Lib.hid a2
      obtain ⟨A6, c6, rfl, hr6⟩ := RdS.of_own HO6.out
      obtain ⟨A7, c7, rfl, hr7⟩ := RdS.of_own HO7.out
      have H6 := Lib.hid hr6
      have H7 := Lib.hid hr7
      have hw63 : ws.length ≤ 9223372036854775807 := by omega
      have hl63 : ls.length ≤ 9223372036854775807 := by omega
      clear hr6 hr7 a1 a2 hw1 hl1 HO6 HO7 HD HJ HK HW HL HA HS HN
      go_wp2_with (first | (go_at_call 19; refine (A1.out _).mono ?_; rintro e w1 ⟨⟨v, rfl, ho⟩, hb⟩; replace HB := keepB HB hb; obtain ⟨Am, cm, rfl, hr⟩ := RdS.of_own ho; have HM := Lib.hid hr; replace H6 := Lib.hid (H6.out.below hb); replace H7 := Lib.hid (H7.out.below hb); clear hb ho hr) | (go_at_call 17; refine (A2.out _).mono ?_; rintro e w2 ⟨⟨v, rfl, ho⟩, hb⟩; replace HB := keepB HB hb; obtain ⟨Aw, cw, rfl, hr⟩ := RdS.of_own ho; have HQ := Lib.hid hr; replace HM := Lib.hid (HM.out.below hb); replace H6 := Lib.hid (H6.out.below hb); replace H7 := Lib.hid (H7.out.below hb); clear hb ho hr) | (go_at_call 16; refine (texts_any _ _ _ _ ws _ HQ.out H6.out hw63).mono ?_; clear HQ H6; rintro e w3 ⟨rfl, hb⟩; replace HB := keepB HB hb; replace HM := Lib.hid (HM.out.below hb); replace H7 := Lib.hid (H7.out.below hb); clear hb) | (go_at_call 16; refine (texts_any _ _ _ _ ls _ HM.out H7.out hl63).mono ?_; rintro e w1 ⟨rfl, hb⟩; replace HB := keepB HB hb; clear hb) | (go_at_call 13; refine (awake_any _).mono ?_; rintro e w1 ⟨rfl, hb⟩; replace HB := keepB HB hb; clear hb))
      go_ret
      exact ⟨rfl, HB.out.1⟩
end Go.Proofs.Ytfpidpdhheickaa.My
