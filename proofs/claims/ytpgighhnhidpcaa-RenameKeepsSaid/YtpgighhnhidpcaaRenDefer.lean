/- The deferred closure: it counts those that fly, and tells whether each is just once. -/
import Derived.Test.YtpgighhnhidpcaaRenOneCl
import Derived.Defers
import Derived.Deep.LoopGhost
set_option linter.unusedSimpArgs false
set_option linter.unusedVariables false
namespace Go.Proofs.Ytpgighhnhidpcaa.My
open Go.RowKit
theorem outs_drop {fl : List RenV} {q : Nat} {r : RenV} (hr : fl[q]? = some r) : (outs (fl.drop q)).reverse = (outs (fl.drop (q + 1))).reverse ++ (if r.out = -1 then [] else [r.out]) := by
  obtain ⟨hlt, he⟩ := List.getElem?_eq_some_iff.1 hr
  rw [List.drop_eq_getElem_cons hlt, he]
  unfold outs
  rw [List.map_cons, List.filter_cons]
  by_cases h : r.out = -1
  · simp [h]
  · simp [h]
theorem onesB_succ (p : Nat) (L : List Int) : onesB (p + 1) L = (onesB p L && (p == 0 || L.count (p : Int) == 1)) := by
  simp [onesB, List.range_succ, List.all_append]
theorem outs_len (fl : List RenV) : (outs fl).length ≤ fl.length := by
  unfold outs
  exact Nat.le_trans (List.length_filter_le _ _) (by simp)
theorem infoBo2 : (Try.prog.info? 4).map (·.size) = some 1 := infoBo
set_option maxRecDepth 100000 in
set_option maxHeartbeats 4000000 in
theorem defer_any (g5 g9 g4 g6 gT gG S0 M : Nat) (P : List Int) (fl : List RenV) (B : Option Addr) (d : Nat) (ok0 : Bool) (u : FrameMode) (w : World)
    (h5 : w.heap[g5]? = some (.cells #[.slice B fl.length d] 33 (0, 0))) (h9 : w.heap[g9]? = some (.cells #[.func (.func 47) #[] #[.pointer (some ⟨g4, 0, none⟩), .pointer (some ⟨gG, 0, none⟩), .pointer (some ⟨gT, 0, none⟩)]] 80 (0, 0)))
    (h4 : w.heap[g4]? = some (.cells #[.int .i64 (M : Int)] 3 (0, 0))) (h6 : w.heap[g6]? = some (.cells #[.bool ok0] 4 (0, 0))) (hG : w.heap[gG]? = some (.cells #[.bool (stB M P)] 4 (0, 0))) (hT : w.heap[gT]? = some (.cells (ma .i64 (tmL M P)) 79 (0, 0)))
    (hl : RwA w B 29 fl.length (fl.map rA)) (hlN : ∀ a, B = some a → 0 < fl.length → a.block ≠ gG ∧ a.block ≠ gT ∧ a.block ≠ g6)
    (hGT : gG ≠ gT) (h4G : g4 ≠ gG) (h4T : g4 ≠ gT) (h5G : g5 ≠ gG) (h5T : g5 ≠ gT) (h6G : g6 ≠ gG) (h6T : g6 ≠ gT) (h9G : g9 ≠ gG) (h9T : g9 ≠ gT) (h64 : g6 ≠ g4) (h65 : g6 ≠ g5) (h69 : g6 ≠ g9) (hSG : S0 ≤ gG) (hST : S0 ≤ gT) (hS6 : S0 ≤ g6) (hS0 : S0 ≤ w.heap.size)
    (h17 : 17 ≤ M) (h96 : (M : Int) ≤ 96) (hP : P.length ≤ 1000) (hfl : fl.length ≤ 1000) :
    CallsD Try.prog 48 #[.pointer (some ⟨g5, 0, none⟩), .pointer (some ⟨g9, 0, none⟩), .pointer (some ⟨g4, 0, none⟩), .pointer (some ⟨g6, 0, none⟩), .pointer (some ⟨gT, 0, none⟩), .pointer (some ⟨gG, 0, none⟩)] u w fun e u' w' => u' = u ∧ (e = .returned (.tuple #[]) ∧ w'.heap[g6]? = some (.cells #[.bool (ok0 && (onesB M (P ++ (outs fl).reverse) && !stB M (P ++ (outs fl).reverse)))] 4 (0, 0)) ∧ Below S0 w w') := by
  have H5 := Lib.hid h5
  have H9 := Lib.hid h9
  have H4 := Lib.hid h4
  have H6 := Lib.hid h6
  have HG := Lib.hid hG
  have HT := Lib.hid hT
  have HL := Lib.hid hl
  have HLN := Lib.hid hlN
  have HB : Hid (Below S0 w w ∧ S0 ≤ w.heap.size) := Lib.hid ⟨Below.refl _ _, hS0⟩
  clear h5 h9 h4 h6 hG hT hl hlN
  obtain ⟨PP, hPP⟩ : ∃ PP, P ++ (outs fl).reverse = PP := ⟨_, rfl⟩
  rw [hPP]
  have hPPl : PP.length ≤ 2000 := by
    rw [← hPP, List.length_append, List.length_reverse]
    have := outs_len fl
    omega
  have HPP := Lib.hid hPP
  clear hPP
  (try clear c5); have c5 := (cellA H5 0).trans rfl
  go_enter_d Try.func48, Try.ntmps48
  go_wp2
  clear c5
  go_loopg [6] fl.length (fun gk i wr => ∃ (z : Int) (PJ : List Int), i = .int .i64 z ∧ z = (gk : Int) - 1 ∧ gk ≤ fl.length ∧ PJ = P ++ (outs (fl.drop gk)).reverse ∧ Hid (wr.heap[g5]? = some (.cells #[.slice B fl.length d] 33 (0, 0))) ∧ Hid (wr.heap[g9]? = some (.cells #[.func (.func 47) #[] #[.pointer (some ⟨g4, 0, none⟩), .pointer (some ⟨gG, 0, none⟩), .pointer (some ⟨gT, 0, none⟩)]] 80 (0, 0))) ∧ Hid (wr.heap[g4]? = some (.cells #[.int .i64 (M : Int)] 3 (0, 0))) ∧ Hid (wr.heap[g6]? = some (.cells #[.bool ok0] 4 (0, 0))) ∧ Hid (wr.heap[gG]? = some (.cells #[.bool (stB M PJ)] 4 (0, 0))) ∧ Hid (wr.heap[gT]? = some (.cells (ma .i64 (tmL M PJ)) 79 (0, 0))) ∧ Hid (RwA wr B 29 fl.length (fl.map rA)) ∧ Hid (Below S0 w wr ∧ S0 ≤ wr.heap.size))
  case atStart => exact ⟨_, P, rfl, by omega, Nat.le_refl _, by rw [List.drop_eq_nil_of_le (Nat.le_refl _)]; simp [outs], H5, H9, H4, H6, HG, HT, HL, HB⟩
  case round =>
    clear H5 H9 H4 H6 HG HT HL HB
    obtain ⟨z, PJ, rfl, hz, hgk, hPJ0, H5, H9, H4, H6, HG, HT, HL, HB⟩ := hrel
    cases gk with
    | succ q =>
      have hlt : q < fl.length := by omega
      have hn0 : 0 < fl.length := by omega
      obtain rfl : z = (q : Int) := by omega
      clear hz
      obtain ⟨r, hr⟩ : ∃ r, fl[q]? = some r := ⟨_, List.getElem?_eq_getElem hlt⟩
      obtain ⟨bL, oL, rfl, _, _⟩ := HL.out.2.2 hn0
      have hPJ : PJ.length ≤ 1000000 := by
        rw [hPJ0, List.length_append, List.length_reverse]
        have := outs_len (fl.drop (q + 1))
        rw [List.length_drop] at this
        omega
      have hnx := outs_drop hr
      by_cases h3 : r.out = -1
      · have b3 : (r.out != -1) = false := by simp [h3]
        have HPN : Hid (PJ = P ++ (outs (fl.drop q)).reverse) := by
          rw [hnx, if_pos h3, List.append_nil]
          exact hPJ0
        clear hPJ0 hnx h3
        (try clear c5); have c5 := (cellA H5 0).trans rfl
        (try clear fO); have fO := (HL.out.at_ hn0 (rens_get hr)) 27 (.int .i64 r.out) rfl
        go_wp2_with (first | (refine wlIdx rfl 33 _ _ rfl 52 29 Try.underlying33 sizeRen bL oL fl.length d q rfl rfl hlt ?_))
        go_roundg q
        case rel => exact ⟨(q : Int) - 1, PJ, by go_num, rfl, by omega, HPN.out, H5, H9, H4, H6, HG, HT, HL, HB⟩
        case measure => omega
      · have b3 : (r.out != -1) = true := by simpa using h3
        have HPN : Hid (PJ ++ [r.out] = P ++ (outs (fl.drop q)).reverse) := by
          rw [hnx, if_neg h3, hPJ0, List.append_assoc]
          exact rfl
        clear hPJ0 hnx h3
        (try clear c5); have c5 := (cellA H5 0).trans rfl
        (try clear fO); have fO := (HL.out.at_ hn0 (rens_get hr)) 27 (.int .i64 r.out) rfl
        go_wp2_with (first | (refine wlIdx rfl 33 _ _ rfl 52 29 Try.underlying33 sizeRen bL oL fl.length d q rfl rfl hlt ?_))
        clear c5 fO
        replace H5 := keepA1 H5
        replace H9 := keepA1 H9
        replace H4 := keepA1 H4
        replace H6 := keepA1 H6
        replace HG := keepA1 HG
        replace HT := keepA1 HT
        replace HL := Lib.hid (HL.out.drew 1)
        replace HB := keepB1 HB
        refine rgStart (S := (fun w' => w'.heap[g9]? = some (.cells #[.func (.func 47) #[] #[.pointer (some ⟨g4, 0, none⟩), .pointer (some ⟨gG, 0, none⟩), .pointer (some ⟨gT, 0, none⟩)]] 80 (0, 0)) ∧ w'.heap[g5]? = some (.cells #[.slice (some ⟨bL, oL, none⟩) fl.length d] 33 (0, 0)) ∧ w'.rangeAt bL (oL + q * 29) (rA r).toList)) (n := 7) #[false, false, false, false, false, false, false] (by kernel_rfl) rfl rfl ⟨H9.out, H5.out, HL.out.at_ hn0 (rens_get hr)⟩ (fun hHeld => ?_)
        refine rgTake (i := 0) (N := some 21) (oi := { dst := some 21, op := Op.load 80 (Operand.tmp 1), type := 80, pos := "rename.go:88", after := #[], guard := none }) (v := ?_) #[true, false, false, false, false, false, false] rfl rfl (by kernel_rfl) (fun _ _ _ h => h) (Or.inl ⟨by rfl, ?_⟩) hHeld ?_
        rotate_left
        · intro w' hSw; (try dsimp only at hSw); (have s9 := (cell_of_row _ _ 0 _ _ _ hSw.1).trans rfl; have s5 := (cell_of_row _ _ 0 _ _ _ hSw.2.1).trans rfl; have sO := hSw.2.2 27 (.int .i64 r.out) rfl); go_simp; try with_reducible rfl
        simp only [Act.put, List.setIfInBounds_toArray, List.set_cons_zero, List.set_cons_succ]
        refine rgTake (i := 1) (N := some 22) (oi := { dst := some 22, op := Op.load 33 (Operand.tmp 0), type := 33, pos := "rename.go:88", after := #[], guard := none }) (v := ?_) #[true, true, false, false, false, false, false] rfl rfl (by kernel_rfl) (fun _ _ _ h => h) (Or.inl ⟨by rfl, ?_⟩) hHeld ?_
        rotate_left
        · intro w' hSw; (try dsimp only at hSw); (have s9 := (cell_of_row _ _ 0 _ _ _ hSw.1).trans rfl; have s5 := (cell_of_row _ _ 0 _ _ _ hSw.2.1).trans rfl; have sO := hSw.2.2 27 (.int .i64 r.out) rfl); go_simp; try with_reducible rfl
        simp only [Act.put, List.setIfInBounds_toArray, List.set_cons_zero, List.set_cons_succ]
        refine rgTake (i := 2) (N := some 23) (oi := { dst := some 23, op := Op.move (Operand.tmp 6), type := 3, pos := "rename.go:88", after := #[], guard := none }) (v := ?_) #[true, true, true, false, false, false, false] rfl rfl (by kernel_rfl) (fun _ _ _ h => h) (Or.inl ⟨by rfl, ?_⟩) hHeld ?_
        rotate_left
        · intro w' hSw; (try dsimp only at hSw); (have s9 := (cell_of_row _ _ 0 _ _ _ hSw.1).trans rfl; have s5 := (cell_of_row _ _ 0 _ _ _ hSw.2.1).trans rfl; have sO := hSw.2.2 27 (.int .i64 r.out) rfl); go_simp; try with_reducible rfl
        simp only [Act.put, List.setIfInBounds_toArray, List.set_cons_zero, List.set_cons_succ]
        refine rgTake (i := 3) (N := some 24) (oi := { dst := some 24, op := Op.indexAddr 33 (Operand.tmp 22) (Operand.tmp 23), type := 0, pos := "rename.go:88", after := #[{ on := 1, ground := Ground.data }, { on := 2, ground := Ground.data }], guard := none }) (v := _) #[true, true, true, true, false, false, false] rfl rfl (by kernel_rfl) (fun _ _ _ h => h) (yieldsIdx (by rfl) 33 _ _ rfl 52 29 Try.underlying33 sizeRen bL oL fl.length d q rfl rfl hlt) hHeld ?_
        simp only [Act.put, List.setIfInBounds_toArray, List.set_cons_zero, List.set_cons_succ]
        refine rgTake (i := 4) (N := some 25) (oi := { dst := some 25, op := Op.fieldAddr 52 (Operand.tmp 24) 3, type := 0, pos := "rename.go:88", after := #[{ on := 3, ground := Ground.data }], guard := none }) (v := ?_) #[true, true, true, true, true, false, false] rfl rfl (by kernel_rfl) (fun _ _ _ h => h) (Or.inl ⟨by rfl, ?_⟩) hHeld ?_
        rotate_left
        · intro w' hSw; (try dsimp only at hSw); (have s9 := (cell_of_row _ _ 0 _ _ _ hSw.1).trans rfl; have s5 := (cell_of_row _ _ 0 _ _ _ hSw.2.1).trans rfl; have sO := hSw.2.2 27 (.int .i64 r.out) rfl); go_simp; try with_reducible rfl
        simp only [Act.put, List.setIfInBounds_toArray, List.set_cons_zero, List.set_cons_succ]
        refine rgTake (i := 5) (N := some 26) (oi := { dst := some 26, op := Op.load 3 (Operand.tmp 25), type := 3, pos := "rename.go:88", after := #[{ on := 4, ground := Ground.data }], guard := none }) (v := ?_) #[true, true, true, true, true, true, false] rfl rfl (by kernel_rfl) (fun _ _ _ h => h) (Or.inl ⟨by rfl, ?_⟩) hHeld ?_
        rotate_left
        · intro w' hSw; (try dsimp only at hSw); (have s9 := (cell_of_row _ _ 0 _ _ _ hSw.1).trans rfl; have s5 := (cell_of_row _ _ 0 _ _ _ hSw.2.1).trans rfl; have sO := hSw.2.2 27 (.int .i64 r.out) rfl); go_simp; try with_reducible rfl
        simp only [Act.put, List.setIfInBounds_toArray, List.set_cons_zero, List.set_cons_succ]
        refine rgCall (i := 6) (N := some 27) (oi := { dst := some 27, op := Op.call { callee := Callee.value (Operand.tmp 21), args := #[Operand.tmp 26], argTypes := #[3] }, type := 0, pos := "rename.go:88", after := #[{ on := 0, ground := Ground.data }, { on := 5, ground := Ground.data }], guard := none }) #[true, true, true, true, true, true, true] rfl rfl (by kernel_rfl) (fun K hK => ?_)
        (go_simp; go_at_call 47; refine (one_cl g4 gG gT (M : Int) r.out PJ _ H4.out HG.out HT.out hGT h96 hPJ).mono ?_; rintro e w2 ⟨rfl, hg, ht, ho⟩; replace H4 := keepA2 H4 ho h4G h4T; replace H5 := keepA2 H5 ho h5G h5T; replace H6 := keepA2 H6 ho h6G h6T; replace H9 := keepA2 H9 ho h9G h9T; replace HL := Lib.hid (HL.out.two ho (fun a e1 e2 => ⟨(HLN.out a e1 e2).1, (HLN.out a e1 e2).2.1⟩)); replace HB := keepB2 HB ho hSG hST; clear HG HT; have HG := Lib.hid hg; have HT := Lib.hid ht; clear hg ht)
        refine hK.out _ _ ⟨H9.out, H5.out, HL.out.at_ hn0 (rens_get hr)⟩ (fun hHeld => ?_)
        (try simp only [Act.put, List.setIfInBounds_toArray, List.set_cons_zero, List.set_cons_succ])
        clear hK K
        refine rgDone (by kernel_rfl) ?_ _
        go_wp2
        go_roundg q
        case rel => exact ⟨(q : Int) - 1, PJ ++ [r.out], by go_num, rfl, by omega, HPN.out, H5, H9, H4, H6, HG, HT, HL, HB⟩
        case measure => omega
    | zero =>
      obtain rfl : z = -1 := by omega
      clear hz
      obtain rfl : PJ = PP := by rw [hPJ0, ← HPP.out, List.drop_zero]
      clear hPJ0
      clear H5 H9 HL HPP
      go_wp2
      go_loopg [7] (M - 1) (fun gk i wr => ∃ p : Nat, i = .int .i64 p ∧ 1 ≤ p ∧ p + gk = M ∧ Hid (wr.heap[g4]? = some (.cells #[.int .i64 (M : Int)] 3 (0, 0))) ∧ Hid (wr.heap[g6]? = some (.cells #[.bool (ok0 && onesB p PJ)] 4 (0, 0))) ∧ Hid (wr.heap[gG]? = some (.cells #[.bool (stB M PJ)] 4 (0, 0))) ∧ Hid (wr.heap[gT]? = some (.cells (ma .i64 (tmL M PJ)) 79 (0, 0))) ∧ Hid (Below S0 w wr ∧ S0 ≤ wr.heap.size))
      case atStart => exact ⟨1, rfl, by omega, by omega, H4, by rw [show onesB 1 PJ = true by simp [onesB], Bool.and_true]; exact H6, HG, HT, HB⟩
      case round =>
        clear H4 H6 HG HT HB
        obtain ⟨p, rfl, hp1, hpM, H4, H6, HG, HT, HB⟩ := hrel
        by_cases hlt : p < M
        · have hn : (ok0 && onesB (p + 1) PJ) = ((ok0 && onesB p PJ) && (PJ.count (p : Int) == 1)) := by
            rw [onesB_succ, show (p == 0) = false by simp; omega, Bool.false_or, Bool.and_assoc]
          have hat := tmL_at (P := PJ) hp1 (show (p : Int) < (M : Int) by omega) h96
          have hp96 : p < 96 := by omega
          have HTA := Lib.hid ((cellA HT p).trans (show (ma .i64 (tmL M PJ))[p]? = some (.int .i64 (PJ.count (p : Int) : Int)) by simp [ma, hat]))
          clear hat
          obtain ⟨bk, hk⟩ : ∃ b, (ok0 && onesB p PJ) = b := ⟨_, rfl⟩
          rw [hk] at hn
          replace H6 : Hid (wr.heap[g6]? = some (.cells #[.bool bk] 4 (0, 0))) := by rw [← hk]; exact H6
          clear hk
          obtain ⟨C, hC⟩ : ∃ C : Nat, PJ.count (p : Int) = C := ⟨_, rfl⟩
          rw [hC] at hn HTA
          clear hC
          cases bk with
          | false =>
            have HN : Hid ((ok0 && onesB (p + 1) PJ) = false) := by rw [hn]; rfl
            clear hn HTA
            (try clear c6 cG c4); have c6 := (cellA H6 0).trans rfl; have cG := (cellA HG 0).trans rfl; have c4 := (cellA H4 0).trans rfl
            go_wp2_with (first | (refine cellStore rfl 4 _ _ rfl g6 0 rfl (.bool false) rfl rfl rfl H6.out (by simp) infoBo ?_; intro w3 h6 ho; replace H4 := keepAo H4 (Ne.symm h64) ho; replace HG := keepAo HG (Ne.symm h6G) ho; replace HT := keepAo HT (Ne.symm h6T) ho; replace HB := keepBo HB hS6 ho; clear H6; have H6 : Hid (w3.heap[g6]? = some (.cells #[.bool false] 4 (0, 0))) := Lib.hid h6; clear h6 ho))
            go_roundg (M - (p + 1))
            case rel => exact ⟨p + 1, by go_num, by omega, by omega, H4, by rw [HN.out]; exact H6, HG, HT, HB⟩
            case measure => omega
          | true =>
            have ct := HTA.out
            by_cases hc : C = 1
            · have HN : Hid ((ok0 && onesB (p + 1) PJ) = true) := by rw [hn, hc]; rfl
              have b1 : ((C : Int) == 1) = true := by simp [hc]
              clear hn HTA hc
              (try clear c6 cG c4); have c6 := (cellA H6 0).trans rfl; have cG := (cellA HG 0).trans rfl; have c4 := (cellA H4 0).trans rfl
              go_wp2_with (first | (refine cellStore rfl 4 _ _ rfl g6 0 rfl (.bool true) rfl rfl rfl H6.out (by simp) infoBo ?_; intro w3 h6 ho; replace H4 := keepAo H4 (Ne.symm h64) ho; replace HG := keepAo HG (Ne.symm h6G) ho; replace HT := keepAo HT (Ne.symm h6T) ho; replace HB := keepBo HB hS6 ho; clear H6; have H6 : Hid (w3.heap[g6]? = some (.cells #[.bool true] 4 (0, 0))) := Lib.hid h6; clear h6 ho))
              go_roundg (M - (p + 1))
              case rel => exact ⟨p + 1, by go_num, by omega, by omega, H4, by rw [HN.out]; exact H6, HG, HT, HB⟩
              case measure => omega
            · have HN : Hid ((ok0 && onesB (p + 1) PJ) = false) := Lib.hid (by rw [hn, Bool.true_and, beq_eq_false_iff_ne]; exact hc)
              have b1 : ((C : Int) == 1) = false := by rw [beq_eq_false_iff_ne]; omega
              clear hn HTA hc
              (try clear c6 cG c4); have c6 := (cellA H6 0).trans rfl; have cG := (cellA HG 0).trans rfl; have c4 := (cellA H4 0).trans rfl
              go_wp2_with (first | (refine cellStore rfl 4 _ _ rfl g6 0 rfl (.bool false) rfl rfl rfl H6.out (by simp) infoBo ?_; intro w3 h6 ho; replace H4 := keepAo H4 (Ne.symm h64) ho; replace HG := keepAo HG (Ne.symm h6G) ho; replace HT := keepAo HT (Ne.symm h6T) ho; replace HB := keepBo HB hS6 ho; clear H6; have H6 : Hid (w3.heap[g6]? = some (.cells #[.bool false] 4 (0, 0))) := Lib.hid h6; clear h6 ho))
              go_roundg (M - (p + 1))
              case rel => exact ⟨p + 1, by go_num, by omega, by omega, H4, by rw [HN.out]; exact H6, HG, HT, HB⟩
              case measure => omega
        · obtain rfl : p = M := by omega
          obtain ⟨bk, hk⟩ : ∃ b, (ok0 && onesB p PJ) = b := ⟨_, rfl⟩
          obtain ⟨bs, hs⟩ : ∃ b, stB (p : Int) PJ = b := ⟨_, rfl⟩
          have HN : Hid ((ok0 && (onesB p PJ && !stB (p : Int) PJ)) = (bk && !bs)) := by rw [← Bool.and_assoc, hk, hs]; exact rfl
          replace H6 : Hid (wr.heap[g6]? = some (.cells #[.bool bk] 4 (0, 0))) := by rw [← hk]; exact H6
          replace HG : Hid (wr.heap[gG]? = some (.cells #[.bool bs] 4 (0, 0))) := by rw [← hs]; exact HG
          clear hk hs
          (try clear c6 cG c4); have c6 := (cellA H6 0).trans rfl; have cG := (cellA HG 0).trans rfl; have c4 := (cellA H4 0).trans rfl
          cases bk with
          | false =>
            go_wp2_with (first | (refine cellStore rfl 4 _ _ rfl g6 0 rfl (.bool false) rfl rfl rfl H6.out (by simp) infoBo ?_; intro w3 h6 ho; replace H4 := keepAo H4 (Ne.symm h64) ho; replace HG := keepAo HG (Ne.symm h6G) ho; replace HT := keepAo HT (Ne.symm h6T) ho; replace HB := keepBo HB hS6 ho; clear H6; have H6 : Hid (w3.heap[g6]? = some (.cells #[.bool false] 4 (0, 0))) := Lib.hid h6; clear h6 ho))
            go_end0
            exact ⟨rfl, by rw [HN.out]; exact H6.out, HB.out.1⟩
          | true =>
            cases bs with
            | false =>
              go_wp2_with (first | (refine cellStore rfl 4 _ _ rfl g6 0 rfl (.bool true) rfl rfl rfl H6.out (by simp) infoBo ?_; intro w3 h6 ho; replace H4 := keepAo H4 (Ne.symm h64) ho; replace HG := keepAo HG (Ne.symm h6G) ho; replace HT := keepAo HT (Ne.symm h6T) ho; replace HB := keepBo HB hS6 ho; clear H6; have H6 : Hid (w3.heap[g6]? = some (.cells #[.bool true] 4 (0, 0))) := Lib.hid h6; clear h6 ho))
              go_end0
              exact ⟨rfl, by rw [HN.out]; exact H6.out, HB.out.1⟩
            | true =>
              go_wp2_with (first | (refine cellStore rfl 4 _ _ rfl g6 0 rfl (.bool false) rfl rfl rfl H6.out (by simp) infoBo ?_; intro w3 h6 ho; replace H4 := keepAo H4 (Ne.symm h64) ho; replace HG := keepAo HG (Ne.symm h6G) ho; replace HT := keepAo HT (Ne.symm h6T) ho; replace HB := keepBo HB hS6 ho; clear H6; have H6 : Hid (w3.heap[g6]? = some (.cells #[.bool false] 4 (0, 0))) := Lib.hid h6; clear h6 ho))
              go_end0
              exact ⟨rfl, by rw [HN.out]; exact H6.out, HB.out.1⟩
end Go.Proofs.Ytpgighhnhidpcaa.My
