/- The law of Order: the walk. -/
import Derived.Test.YtpljolhcikbejaaFreelOrderWords
set_option linter.unusedSimpArgs false
set_option linter.unusedVariables false
namespace Go.Proofs.Ytpljolhcikbejaa.My
open Go.RowKit
set_option maxRecDepth 100000 in
set_option maxHeartbeats 16000000 in
theorem order_walk (q : Int) (A1 : Option Addr) (m c1 : Nat) (acts : List Int) (w : World) (hr : RdA .i64 w A1 m acts) (hm : ¬ 100 < m) : Calls Try.prog 4 #[.int .i64 q, .slice A1 m c1] w fun e w' => e = .returned (.bool true) ∧ Below w.heap.size w w' := by
  obtain ⟨M, hM⟩ : ∃ M, cut q 96 = M := ⟨_, rfl⟩
  have hm96 : M ≤ 96 := hM ▸ cut_le q 96
  have hmm : M ≤ 9223372036854775807 := by omega
  have hs0 := new_sound hM
  obtain ⟨X0, hX0⟩ : ∃ X, newL M 0 = X := ⟨_, rfl⟩
  obtain ⟨Y0, hY0⟩ : ∃ Y, ringL X0 M 0 (M : Int) = Y := ⟨_, rfl⟩
  have hl0 : Y0.length = M := by rw [← hY0, ring_len hs0]; omega
  have HM := Lib.hid hM
  have HX0 := Lib.hid hX0
  have HY0 := Lib.hid hY0
  have HL0 := Lib.hid hl0
  have HS0 := Lib.hid hs0
  have HACT := Lib.hid hr
  have HB := startB w
  clear hM hs0 hX0 hY0 hl0 hr
  go_enter Try.func4, Try.ntmps4
  go_wp2_with (first | (go_at_call 14; refine (new_full q M X0 _ HM.out HX0.out).mono ?_; rintro e wN ⟨A0, c0, rfl, hr0, _, hb⟩; replace HB := keepB HB hb; have HR := Lib.hid hr0; clear hb hr0) | (refine rowNew ?_ 24 _ _ rfl rfl _ rfl infoFree (by rfl) (by simp [Value.oneCell']) ?_; rfl; intro wF hx hb; have HF := Lib.hid hx; have HBF := Lib.hid (show wN.heap.size < wF.heap.size from (Array.getElem?_eq_some_iff.1 hx).1); have HNE := Lib.hid (show ∀ a, A0 = some a → 0 < M → a.block ≠ wN.heap.size from fun a ha hn => Nat.ne_of_lt (HR.out.lt a ha hn)); replace HR := Lib.hid (HR.out.below hb); have HGN := Lib.hid HB.out.2; replace HB := keepB HB hb; clear hb hx) | (refine rowLoad ?_ 24 _ rfl _ rfl HF.out Try.underlying24 rfl infoFree ?_; rfl) | (go_at_call 15; refine (list_own A0 M c0 0 (M : Int) X0 _ HR.out hmm).mono ?_; rintro e wL ⟨⟨v, rfl, ho⟩, hb⟩; rw [HY0.out] at ho; have ho2 := ho; unfold OwnI at ho2; rw [HL0.out] at ho2; obtain ⟨Al, capl, rfl, hT, hAl⟩ := TailI.of_own ho2; have HAP := Lib.hid (apart_new (cap := capl) HR.out hAl); have HT := Lib.hid (hT.weak HBF.out); replace HF := keepA HF hb; replace HR := Lib.hid (HR.out.below hb); replace HB := keepB HB hb; clear hb ho ho2 hT hAl))
  go_loopw [6, 7] (fun o6 o7 wr => ∃ (k n nl : Nat) (xs ys : List Int) (A : Option Addr) (c : Nat) (h : Int) (Al : Option Addr) (capl : Nat), k ≤ m ∧ o7 = .int .i64 k ∧ o6 = .slice Al nl capl ∧ nl ≤ n ∧ n ≤ 96 ∧ Hid (soundB n h (nl : Int) = true) ∧ Hid (ringL xs n h (nl : Int) = ys) ∧ Hid (wr.heap[wN.heap.size]? = some (.cells #[.slice A n c, .int .i64 h, .int .i64 (nl : Int)] 24 (0, 0))) ∧ Hid (RdA .i64 wr A n xs) ∧ Hid (TailI wr (wN.heap.size + 1) Al nl capl ys) ∧ Hid (Apart A n Al capl) ∧ Hid (∀ a, A = some a → 0 < n → a.block ≠ wN.heap.size) ∧ Hid (Below w.heap.size w wr ∧ w.heap.size ≤ wr.heap.size)) (fun _ o7 _ => m - (intOf o7).toNat)
  case atStart => exact ⟨0, M, M, X0, Y0, A0, c0, 0, Al, capl, Nat.zero_le _, rfl, rfl, Nat.le_refl _, hm96, HS0, HY0, HF, HR, HT, HAP, HNE, HB⟩
  case round =>
    clear HF HR HT HAP HNE HB HS0 HY0 HX0 HL0 hm96 hmm HM
    obtain ⟨k, n, nl, xs, ys, A, c, h, Al, capl, hk, rfl, rfl, hln, hn96, HS, HY, HF, HR, HT, HAP, HNE, HB⟩ := hrel
    have hnm : n ≤ 9223372036854775807 := by omega
    by_cases hlt : k < m
    · obtain ⟨b1, o1, rfl, hc⟩ := HACT.out.2 (by omega)
      obtain ⟨x, hx⟩ : ∃ x, el acts k = x := ⟨_, rfl⟩
      have HXC := Lib.hid (hc k hlt)
      rw [hx] at HXC
      have cx := cellB HB.out.1 HXC.out
      have f0 := (cellA HF 0).trans rfl
      have HXL : Hid (xs.length = n) := Lib.hid HR.out.1
      clear hc hx HACT
      by_cases hx0 : 0 ≤ x
      · by_cases hfull : nl = n
        · have hf2 := hfull.symm
          subst hf2
          clear hfull
          have hg : giveB n h (n : Int) = false := by rw [give_iff HS.out]; exact decide_eq_false (by simp)
          have HGG : Hid (gvR xs n h (n : Int) x = xs) := Lib.hid (by unfold gvR; rw [hg]; rfl)
          have HNN : Hid (gvN n h (n : Int) = (n : Int)) := Lib.hid (by unfold gvN; rw [hg]; rfl)
          have HY2 := HY
          have HLN2 : Hid (ys.length = n) := Lib.hid HT.out.1
          have e8 : ((n : Int) == (n : Int)) = true := beq_self_eq_true _
          clear hg
          go_wp2
          have f1 := (cellA HF 1).trans rfl
          have f2 := (cellA HF 2).trans rfl
          have hkI : (k : Int) < (m : Int) := by omega
          have hkJ : (0 : Int) ≤ (k : Int) := by omega
          have cx2 : wr.drew.cell? ⟨b1, o1 + k, none⟩ = some (.int .i64 x) := cx
          go_still_tail 5, (by kernel_rfl)
          change wpList _ _ _ _ _ wr.drew
          replace HF := keepA1 HF
          replace HB := keepB1 HB
          replace HR : Hid (RdA .i64 wr.drew A n xs) := HR
          replace HT : Hid (TailI wr.drew (wN.heap.size + 1) Al n capl ys) := HT
          clear f0 f1 f2 cx cx2
          go_wp2_with (first | (go_at_call 10; refine (give_keep A n c h _ x xs _ HR.out hnm).mono ?_; rintro e wG ⟨A2, c2, rfl, hr2, hfr, hb⟩; simp only [HGG.out, HNN.out] at hr2 ⊢; have HAP2 := Lib.hid (apart_give HAP.out hfr HT.out); have HNE2 := Lib.hid (ne_give HNE.out hfr (Array.getElem?_eq_some_iff.1 HF.out).1); replace HF := keepA HF hb; replace HT := Lib.hid (HT.out.below hb); replace HB := keepB HB hb; have HR2 := Lib.hid hr2; clear hb hr2 hfr) | (refine rowStore ?_ 24 _ _ rfl wN.heap.size rfl _ rfl HF.out infoFree (by rfl) (by simp [Value.oneCell']) ?_; rfl; intro w5 hx ho; replace HR2 := Lib.hid (HR2.out.only2 ho HNE2.out); replace HT := Lib.hid (HT.out.only ho hx (Nat.lt_succ_self _)); replace HB := keepBo HB HGN.out ho; clear HF; have HF := Lib.hid hx; clear hx ho; (try clear cx); have cx := cellB HB.out.1 HXC.out) | (refine rowLoad ?_ 24 _ rfl _ rfl HF.out Try.underlying24 rfl infoFree ?_; rfl) | (go_at_call 15; refine (list_any _ _ _ _ _ _ _ HR2.out hnm).mono ?_; rintro e wS ⟨⟨A3, c3, rfl, hr3⟩, hb⟩; simp only [HY2.out, HLN2.out] at hr3 ⊢; replace HF := keepA HF hb; replace HR2 := Lib.hid (HR2.out.below hb); replace HT := Lib.hid (HT.out.below hb); replace HB := keepB HB hb; have HL3 := Lib.hid hr3; clear hb hr3) | (go_at_call 16; refine (ints_any _ _ _ _ _ _ _ HL3.out HT.out.rd (by omega)).mono ?_; rintro e wI ⟨rfl, hb⟩; replace HF := keepA HF hb; replace HR2 := Lib.hid (HR2.out.below hb); replace HT := Lib.hid (HT.out.below hb); replace HB := keepB HB hb; clear hb))
          go_roundw
          case rel => exact ⟨k + 1, n, n, xs, ys, A2, c2, h, Al, capl, by omega, by go_num, rfl, Nat.le_refl _, hn96, HS, HY, HF, HR2, HT, HAP2, HNE2, HB⟩
          case measure => simp [intOf]; omega
        · skip
          have hg : giveB n h (nl : Int) = true := by rw [give_iff HS.out]; exact decide_eq_true (by omega)
          obtain ⟨X2, hX2⟩ : ∃ X, gvR xs n h (nl : Int) x = X := ⟨_, rfl⟩
          have hput := ring_put (p := x) HXL.out hg
          have hXe : xs.set (atZ n h (nl : Int)).toNat x = X2 := by rw [← hX2]; unfold gvR; rw [hg]; rfl
          rw [hXe, HY.out] at hput
          have HGG := Lib.hid hX2
          have HNN : Hid (gvN n h (nl : Int) = (nl : Int) + 1) := Lib.hid (by unfold gvN; rw [hg]; rfl)
          have HY2 := Lib.hid hput.1
          have HS2 := Lib.hid hput.2
          have HLN2 : Hid ((ys ++ [x]).length = nl + 1) := Lib.hid (by rw [List.length_append, HT.out.1]; rfl)
          have e8 : ((nl : Int) == (n : Int)) = false := beq_eq_false_iff_ne.2 (by omega)
          have hnl : nl < n := by omega
          clear hg hX2 hput hXe hfull
          go_wp2
          have f1 := (cellA HF 1).trans rfl
          have f2 := (cellA HF 2).trans rfl
          have hkI : (k : Int) < (m : Int) := by omega
          have hkJ : (0 : Int) ≤ (k : Int) := by omega
          have cx2 : wr.drew.cell? ⟨b1, o1 + k, none⟩ = some (.int .i64 x) := cx
          go_still_tail 5, (by kernel_rfl)
          change wpList _ _ _ _ _ wr.drew
          replace HF := keepA1 HF
          replace HB := keepB1 HB
          replace HR : Hid (RdA .i64 wr.drew A n xs) := HR
          replace HT : Hid (TailI wr.drew (wN.heap.size + 1) Al nl capl ys) := HT
          clear f0 f1 f2 cx cx2
          go_wp2_with (first | (go_at_call 10; refine (give_keep A n c h _ x xs _ HR.out hnm).mono ?_; rintro e wG ⟨A2, c2, rfl, hr2, hfr, hb⟩; simp only [HGG.out, HNN.out] at hr2 ⊢; have HAP2 := Lib.hid (apart_give HAP.out hfr HT.out); have HNE2 := Lib.hid (ne_give HNE.out hfr (Array.getElem?_eq_some_iff.1 HF.out).1); replace HF := keepA HF hb; replace HT := Lib.hid (HT.out.below hb); replace HB := keepB HB hb; have HR2 := Lib.hid hr2; clear hb hr2 hfr) | (refine rowStore ?_ 24 _ _ rfl wN.heap.size rfl _ rfl HF.out infoFree (by rfl) (by simp [Value.oneCell']) ?_; rfl; intro w5 hx ho; replace HR2 := Lib.hid (HR2.out.only2 ho HNE2.out); replace HT := Lib.hid (HT.out.only ho hx (Nat.lt_succ_self _)); replace HB := keepBo HB HGN.out ho; clear HF; have HF := Lib.hid hx; clear hx ho; (try clear cx); have cx := cellB HB.out.1 HXC.out) | (refine appTail rfl _ _ 22 rfl Try.underlying22 infoInt (wN.heap.size + 1) Al nl capl ys rfl HT.out x _ rfl (by omega) (Array.getElem?_eq_some_iff.1 HF.out).1 A2 n X2 HR2.out HAP2.out ?_; intro A4 cap4 w6 ht hr4 hap hb2; replace HT := Lib.hid ht; replace HR2 := Lib.hid hr4; replace HAP2 := Lib.hid hap; replace HF := keepAg HF (Nat.lt_succ_self _) hb2; replace HB := keepBg HB (Nat.le_succ_of_le HGN.out) hb2; clear ht hr4 hap hb2) | (refine rowLoad ?_ 24 _ rfl _ rfl HF.out Try.underlying24 rfl infoFree ?_; rfl) | (go_at_call 15; refine (list_any _ _ _ _ _ _ _ HR2.out hnm).mono ?_; rintro e wS ⟨⟨A3, c3, rfl, hr3⟩, hb⟩; simp only [HY2.out, HLN2.out] at hr3 ⊢; replace HF := keepA HF hb; replace HR2 := Lib.hid (HR2.out.below hb); replace HT := Lib.hid (HT.out.below hb); replace HB := keepB HB hb; have HL3 := Lib.hid hr3; clear hb hr3) | (go_at_call 16; refine (ints_any _ _ _ _ _ _ _ HL3.out HT.out.rd (by omega)).mono ?_; rintro e wI ⟨rfl, hb⟩; replace HF := keepA HF hb; replace HR2 := Lib.hid (HR2.out.below hb); replace HT := Lib.hid (HT.out.below hb); replace HB := keepB HB hb; clear hb))
          go_roundw
          case rel => exact ⟨k + 1, n, nl + 1, X2, ys ++ [x], A2, c2, h, A4, cap4, by omega, by go_num, rfl, by omega, hn96, HS2, HY2, HF, HR2, HT, HAP2, HNE2, HB⟩
          case measure => simp [intOf]; omega
      · by_cases hz : nl = 0
        · subst hz
          replace HS : Hid (soundB n h 0 = true) := HS
          replace HY : Hid (ringL xs n h 0 = ys) := HY
          replace HF : Hid (wr.heap[wN.heap.size]? = some (.cells #[.slice A n c, .int .i64 h, .int .i64 0] 24 (0, 0))) := HF
          have ht : takeB n h 0 = false := by rw [take_iff HS.out]; rfl
          have HTH : Hid (tkH n h 0 = h) := Lib.hid (by unfold tkH; rw [ht]; rfl)
          have HTN : Hid (tkN n h 0 = 0) := Lib.hid (by unfold tkN; rw [ht]; rfl)
          have HTP : Hid (tkP xs n h 0 = 0) := Lib.hid (by unfold tkP; rw [ht]; rfl)
          have HTB := Lib.hid ht
          have HY2 := HY
          have HLN2 : Hid (ys.length = 0) := Lib.hid HT.out.1
          clear ht f0
          go_wp2_with (first | (refine rowLoad ?_ 24 _ rfl _ rfl HF.out Try.underlying24 rfl infoFree ?_; rfl) | (go_at_call 7; refine (take_keep A n c h _ xs _ HR.out hnm).mono ?_; rintro e wT ⟨rfl, hb⟩; simp only [HTH.out, HTN.out, HTP.out, HTB.out]; replace HF := keepA HF hb; replace HR := Lib.hid (HR.out.below hb); replace HT := Lib.hid (HT.out.below hb); replace HB := keepB HB hb; clear hb) | (refine rowNew ?_ 24 _ _ rfl rfl _ rfl infoFree (by rfl) (by simp [Value.oneCell']) ?_; rfl; intro wV hx hb; have HG9 := Lib.hid hx; have HFT := Lib.hid (Array.getElem?_eq_some_iff.1 HF.out).1; have HRT := Lib.hid HR.out.lt; replace HF := keepA HF hb; replace HR := Lib.hid (HR.out.below hb); replace HT := Lib.hid (HT.out.below hb); replace HB := keepB HB hb; (try clear cx); have cx := cellB HB.out.1 HXC.out; clear hb hx) | (refine rowLoad ?_ 24 _ rfl _ rfl HG9.out Try.underlying24 rfl infoFree ?_; rfl) | (refine rowStore ?_ 24 _ _ rfl wN.heap.size rfl _ rfl HF.out infoFree (by rfl) (by simp [Value.oneCell']) ?_; rfl; intro w5 hx ho; have HR2 := Lib.hid (HR.out.only2 ho HNE.out); replace HT := Lib.hid (HT.out.only ho hx (Nat.lt_succ_self _)); replace HB := keepBo HB HGN.out ho; clear HF; have HF := Lib.hid hx; clear hx ho) | (go_at_call 15; refine (list_any _ _ _ _ _ _ _ HR2.out hnm).mono ?_; rintro e wS ⟨⟨A3, c3, rfl, hr3⟩, hb⟩; simp only [HY2.out, HLN2.out] at hr3 ⊢; replace HF := keepA HF hb; replace HR2 := Lib.hid (HR2.out.below hb); replace HT := Lib.hid (HT.out.below hb); replace HB := keepB HB hb; have HL3 := Lib.hid hr3; clear hb hr3) | (go_at_call 16; refine (ints_any _ _ _ _ _ _ _ HL3.out HT.out.rd (by omega)).mono ?_; rintro e wI ⟨rfl, hb⟩; replace HF := keepA HF hb; replace HR2 := Lib.hid (HR2.out.below hb); replace HT := Lib.hid (HT.out.below hb); replace HB := keepB HB hb; clear hb))
          go_roundw
          case rel => exact ⟨k + 1, n, 0, xs, ys, A, c, h, Al, capl, by omega, by go_num, rfl, Nat.zero_le _, hn96, HS, HY, HF, HR2, HT, HAP, HNE, HB⟩
          case measure => simp [intOf]; omega
        · skip
          have hnl : 0 < nl := by omega
          have e10 : decide ((0 : Int) < (nl : Int)) = true := decide_eq_true (by omega)
          have ht : takeB n h (nl : Int) = true := by rw [take_iff HS.out]; exact decide_eq_true (by omega)
          obtain ⟨H1, hH1⟩ : ∃ H, atZ n h 1 = H := ⟨_, rfl⟩
          obtain ⟨P, hP⟩ : ∃ P, el xs h.toNat = P := ⟨_, rfl⟩
          obtain ⟨hpop1, hpop2⟩ := ring_pop (xs := xs) ht
          obtain ⟨hbk1, hbk2, hbk3⟩ := ring_back (xs := xs) ht
          rw [hP, hH1, HY.out] at hpop1
          rw [hH1] at hpop2
          rw [hH1, hP] at hbk1
          rw [hH1] at hbk2 hbk3
          have HTH : Hid (tkH n h (nl : Int) = H1) := Lib.hid (by unfold tkH; rw [ht]; exact hH1)
          have HTN : Hid (tkN n h (nl : Int) = (nl : Int) - 1) := Lib.hid (by unfold tkN; rw [ht]; rfl)
          have HTP : Hid (tkP xs n h (nl : Int) = P) := Lib.hid (by unfold tkP; rw [ht]; exact hP)
          have HTB := Lib.hid ht
          have HBR := Lib.hid hbk1
          have HBH := Lib.hid hbk2
          have HBN := Lib.hid hbk3
          have HEL : Hid (el ys 0 = P) := Lib.hid (by rw [hpop1]; rfl)
          have HTL : Hid (ringL xs n H1 ((nl : Int) - 1) = ys.tail) := Lib.hid (by rw [hpop1]; rfl)
          have HSP := Lib.hid hpop2
          have e9 : (P != P) = false := bne_self_eq_false P
          obtain ⟨gl, ol, rfl, _⟩ := HT.out.rd.2 hnl
          obtain ⟨t2, ht2⟩ : ∃ t, (x.tmod 2 != 0) = t := ⟨_, rfl⟩
          clear ht hH1 hP hpop1 hpop2 hbk1 hbk2 hbk3 f0 hz
          cases t2 with
          | true =>
            have HY2 := HY
            have HLN2 : Hid (ys.length = nl) := Lib.hid HT.out.1
            go_wp2_with (first | (refine rowLoad ?_ 24 _ rfl _ rfl HF.out Try.underlying24 rfl infoFree ?_; rfl) | (go_at_call 7; refine (take_keep A n c h _ xs _ HR.out hnm).mono ?_; rintro e wT ⟨rfl, hb⟩; simp only [HTH.out, HTN.out, HTP.out, HTB.out]; replace HF := keepA HF hb; replace HR := Lib.hid (HR.out.below hb); replace HT := Lib.hid (HT.out.below hb); replace HB := keepB HB hb; clear hb) | (refine rowNew ?_ 24 _ _ rfl rfl _ rfl infoFree (by rfl) (by simp [Value.oneCell']) ?_; rfl; intro wV hx hb; have HG9 := Lib.hid hx; have HFT := Lib.hid (Array.getElem?_eq_some_iff.1 HF.out).1; have HRT := Lib.hid HR.out.lt; replace HF := keepA HF hb; replace HR := Lib.hid (HR.out.below hb); replace HT := Lib.hid (HT.out.below hb); replace HB := keepB HB hb; (try clear cx); have cx := cellB HB.out.1 HXC.out; have cl := HT.out.head hnl; rw [HEL.out, Nat.add_zero] at cl; clear hb hx) | (refine rowLoad ?_ 24 _ rfl _ rfl HG9.out Try.underlying24 rfl infoFree ?_; rfl) | (go_at_call 12; refine (back_keep A n c H1 _ P xs _ HR.out hnm).mono ?_; rintro e wK ⟨A2, c2, rfl, hr2, hfr, hb⟩; simp only [HBR.out, HBH.out, HBN.out] at hr2 ⊢; have HAP2 := Lib.hid (apart_give HAP.out hfr HT.out); have HNE2 := Lib.hid (ne_give HNE.out hfr (Array.getElem?_eq_some_iff.1 HF.out).1); have HNG := Lib.hid (ne_give (fun a ha hn => Nat.ne_of_lt (HRT.out a ha hn)) hfr (Array.getElem?_eq_some_iff.1 HG9.out).1); replace HF := keepA HF hb; replace HG9 := keepA HG9 hb; replace HT := Lib.hid (HT.out.below hb); replace HB := keepB HB hb; have HR2 := Lib.hid hr2; clear hb hr2 hfr) | (refine rowStore ?_ 24 _ _ rfl wT.heap.size rfl _ rfl HG9.out infoFree (by rfl) (by simp [Value.oneCell']) ?_; rfl; intro w8 hx ho; replace HR2 := Lib.hid (HR2.out.only2 ho HNG.out); replace HT := Lib.hid (HT.out.onlyT ho HG9.out (by decide)); replace HF := keepAo HF (Nat.ne_of_lt HFT.out) ho; replace HB := keepBo HB (Nat.le_of_lt (Nat.lt_of_le_of_lt HGN.out HFT.out)) ho; clear HG9; have HG9 := Lib.hid hx; clear hx ho) | (refine rowStore ?_ 24 _ _ rfl wN.heap.size rfl _ rfl HF.out infoFree (by rfl) (by simp [Value.oneCell']) ?_; rfl; intro w5 hx ho; replace HR2 := Lib.hid (HR2.out.only2 ho HNE2.out); replace HT := Lib.hid (HT.out.only ho hx (Nat.lt_succ_self _)); replace HB := keepBo HB HGN.out ho; clear HF; have HF := Lib.hid hx; clear hx ho; (try clear cx); have cx := cellB HB.out.1 HXC.out) | (go_at_call 15; refine (list_any _ _ _ _ _ _ _ HR2.out hnm).mono ?_; rintro e wS ⟨⟨A3, c3, rfl, hr3⟩, hb⟩; simp only [HY2.out, HLN2.out] at hr3 ⊢; replace HF := keepA HF hb; replace HR2 := Lib.hid (HR2.out.below hb); replace HT := Lib.hid (HT.out.below hb); replace HB := keepB HB hb; have HL3 := Lib.hid hr3; clear hb hr3) | (go_at_call 16; refine (ints_any _ _ _ _ _ _ _ HL3.out HT.out.rd (by omega)).mono ?_; rintro e wI ⟨rfl, hb⟩; replace HF := keepA HF hb; replace HR2 := Lib.hid (HR2.out.below hb); replace HT := Lib.hid (HT.out.below hb); replace HB := keepB HB hb; clear hb))
            go_roundw
            case rel => exact ⟨k + 1, n, nl, xs, ys, A2, c2, h, _, capl, by omega, by go_num, rfl, hln, hn96, HS, HY, HF, HR2, HT, HAP2, HNE2, HB⟩
            case measure => simp [intOf]; omega
          | false =>
            have HY2 := HTL
            have HLN2 : Hid (ys.tail.length = nl - 1) := Lib.hid (by rw [List.length_tail, HT.out.1])
            have hn1 : (((nl - 1 : Nat)) : Int) = (nl : Int) - 1 := by omega
            have HN1 := Lib.hid hn1
            clear hn1
            go_wp2_with (first | (refine rowLoad ?_ 24 _ rfl _ rfl HF.out Try.underlying24 rfl infoFree ?_; rfl) | (go_at_call 7; refine (take_keep A n c h _ xs _ HR.out hnm).mono ?_; rintro e wT ⟨rfl, hb⟩; simp only [HTH.out, HTN.out, HTP.out, HTB.out]; replace HF := keepA HF hb; replace HR := Lib.hid (HR.out.below hb); replace HT := Lib.hid (HT.out.below hb); replace HB := keepB HB hb; clear hb) | (refine rowNew ?_ 24 _ _ rfl rfl _ rfl infoFree (by rfl) (by simp [Value.oneCell']) ?_; rfl; intro wV hx hb; have HG9 := Lib.hid hx; have HFT := Lib.hid (Array.getElem?_eq_some_iff.1 HF.out).1; have HRT := Lib.hid HR.out.lt; replace HF := keepA HF hb; replace HR := Lib.hid (HR.out.below hb); replace HT := Lib.hid (HT.out.below hb); replace HB := keepB HB hb; (try clear cx); have cx := cellB HB.out.1 HXC.out; have cl := HT.out.head hnl; rw [HEL.out, Nat.add_zero] at cl; clear hb hx) | (refine rowLoad ?_ 24 _ rfl _ rfl HG9.out Try.underlying24 rfl infoFree ?_; rfl) | (refine slTail ?_ _ _ _ rfl Try.underlying22 infoInt1 (wN.heap.size + 1) _ nl capl ys rfl _ rfl HT.out hnl ?_; rfl; intro A4 cap4 ht hap; replace HT := Lib.hid ht; have HAP2 := Lib.hid (hap _ _ HAP.out); clear ht hap) | (refine rowStore ?_ 24 _ _ rfl wN.heap.size rfl _ rfl HF.out infoFree (by rfl) (by simp [Value.oneCell']) ?_; rfl; intro w5 hx ho; have HR2 := Lib.hid (HR.out.only2 ho HNE.out); replace HT := Lib.hid (HT.out.only ho hx (Nat.lt_succ_self _)); replace HB := keepBo HB HGN.out ho; clear HF; have HF := Lib.hid hx; clear hx ho) | (go_at_call 15; refine (list_any _ _ _ _ _ _ _ HR2.out hnm).mono ?_; rintro e wS ⟨⟨A3, c3, rfl, hr3⟩, hb⟩; simp only [HY2.out, HLN2.out] at hr3 ⊢; replace HF := keepA HF hb; replace HR2 := Lib.hid (HR2.out.below hb); replace HT := Lib.hid (HT.out.below hb); replace HB := keepB HB hb; have HL3 := Lib.hid hr3; clear hb hr3) | (go_at_call 16; refine (ints_any _ _ _ _ _ _ _ HL3.out HT.out.rd (by omega)).mono ?_; rintro e wI ⟨rfl, hb⟩; replace HF := keepA HF hb; replace HR2 := Lib.hid (HR2.out.below hb); replace HT := Lib.hid (HT.out.below hb); replace HB := keepB HB hb; clear hb))
            go_roundw
            case rel => exact ⟨k + 1, n, nl - 1, xs, ys.tail, A, c, H1, A4, cap4, by omega, by go_num, rfl, by omega, hn96, by rw [HN1.out]; exact HSP, by rw [HN1.out]; exact HTL, by rw [HN1.out]; exact HF, HR2, HT, HAP2, HNE, HB⟩
            case measure => simp [intOf]; omega
    · clear HF HR HT HAP HNE HS HY
      have hkm : k = m := by omega
      go_wp2_with (go_at_call 6; refine (awake_any _).mono ?_; rintro e w1 ⟨rfl, hb⟩; replace HB := keepB HB hb; clear hb)
      go_ret
      exact ⟨rfl, HB.out.1⟩
theorem order_any (q : Int) (A1 : Option Addr) (m c1 : Nat) (acts : List Int) (w : World) (hr : RdA .i64 w A1 m acts) : Calls Try.prog 4 #[.int .i64 q, .slice A1 m c1] w fun e w' => e = .returned (.bool true) ∧ Below w.heap.size w w' := by
  by_cases hm : 100 < m
  · exact order_long q A1 m c1 w hm
  · exact order_walk q A1 m c1 acts w hr hm
end Go.Proofs.Ytpljolhcikbejaa.My
