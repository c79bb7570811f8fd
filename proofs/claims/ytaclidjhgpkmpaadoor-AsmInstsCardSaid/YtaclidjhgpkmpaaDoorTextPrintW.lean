/- Walk: an instruction's text: the program's, whole. -/
import Derived.Test.YtaclidjhgpkmpaaDoorTextPrint
import Derived.Test.YtaclidjhgpkmpaaDoorStrWords
import Derived.Test.YtaclidjhgpkmpaaDoorAppWords
import Derived.Deep.Cut
set_option linter.unusedVariables false
set_option linter.unusedSimpArgs false
namespace Go.Proofs.YtaclidjhgpkmpaaDoor.My
open Go.RowKit
theorem bAt_getP {l : List UInt8} {i : Nat} {c : UInt8} (h : l[i]? = some c) : bAt (bs l) i = c.toNat := by
  obtain ⟨h1, h2⟩ := List.getElem?_eq_some_iff.1 h
  rw [bs_at h1, h2]
theorem dropP {α : Type} {l : List α} {k : Nat} {x : α} (h : l[k]? = some x) : l.drop k = x :: l.drop (k + 1) := by
  obtain ⟨h1, h2⟩ := List.getElem?_eq_some_iff.1 h
  rw [List.drop_eq_getElem_cons h1, h2]
theorem name_len (op : Int) : (nameV op).length ≤ 10 := by
  unfold nameV
  split
  · exact Nat.zero_le _
  · rw [List.getD_eq_getElem?_getD]
    cases h : namesL[(op - 1).toNat]? with
    | none => exact Nat.zero_le _
    | some l =>
      have key : ∀ l ∈ namesL, l.length ≤ 10 := by decide +kernel
      exact key l (List.mem_of_getElem? h)
theorem joinP_len (ls : List (List UInt8)) (m : Nat) (h : ∀ l ∈ ls, l.length ≤ m) : (Lib.join ls [44, 32]).length ≤ ls.length * (m + 2) := by
  induction ls with
  | nil => exact Nat.zero_le _
  | cons a r ih =>
    have ha := h a (by simp)
    have hr := ih (fun l hl => h l (by simp [hl]))
    cases r with
    | nil => simp [Lib.join_one]; omega
    | cons b r =>
      have e : Lib.join (a :: b :: r) [44, 32] = a ++ 44 :: 32 :: Lib.join (b :: r) [44, 32] := by simp [Lib.join, List.intercalate, List.intersperse]
      rw [e, List.length_append, List.length_cons, List.length_cons, List.length_cons (a := a), Nat.add_mul]
      omega
set_option maxRecDepth 100000 in
set_option maxHeartbeats 4000000 in
theorem print_any (op rd ra rb im : Int) (w : World) (ht : Lib.TabIs Tryd.prog w "strings.asciiSpace" .u8 Lib.asciiSpaceTab) (hf : FieldsAt w)
    (hv : ∀ c, -9223372036854775808 ≤ valV rd ra rb im c ∧ valV rd ra rb im c ≤ 9223372036854775807) (hdl : ∀ c, (partV rd ra rb im c).length ≤ 30) : Calls Tryd.prog 8 #[.agg (insA op rd ra rb im)] w fun e w' => e = .returned (.string (bs (printV op rd ra rb im))) ∧ Below w.heap.size w w' := by
  have HB := startB w
  have HTB := Lib.hid ht
  have HFT := Lib.hid hf
  clear ht hf
  obtain ⟨R, hR⟩ : ∃ R, rightI op rd ra rb im = R := ⟨_, rfl⟩
  have HR := Lib.hid hR
  unfold printV
  rw [hR]
  clear hR
  by_cases q0 : R = 0
  rotate_left
  · rw [if_pos q0]
    have q1 : ((R : Int) != 0) = true := bne_iff_ne.2 (by omega)
    clear q0
    go_enter Tryd.func8, Tryd.ntmps8
    go_wp2_with (first | (refine wlBox (by rfl) 30 _ rfl (insA op rd ra rb im) rfl ?_; intro gI w1 hg hl ha hb; replace HB := keepB HB hb; have HI := Lib.hid ha; have HGI : Hid (w.heap.size ≤ gI) := Lib.hid hg; clear ha hb hg hl) | (refine rowLoad (by rfl) 30 _ rfl gI rfl (cs := insA op rd ra rb im) HI.out Tryd.underlying30 rfl infoIn ?_) | (go_at_call 15; refine (right_any op rd ra rb im _ (HFT.out.below HB.out.1)).mono ?_; rw [HR.out]; rintro e w2 ⟨rfl, hb⟩; replace HB := keepB HB hb; replace HI := keepA HI hb; have i0 : w2.cell? ⟨gI, 0, none⟩ = some (.int .i64 op) := cellA HI 0; clear hb))
    go_ret
    exact ⟨rfl, HB.out.1⟩
  subst q0
  rw [if_neg (by simp)]
  obtain ⟨fl, hfl⟩ : ∃ fl, fieldsV (formV op) = fl := ⟨_, rfl⟩
  have hok := fields_ok (formV op)
  rw [hfl] at hok ⊢
  obtain ⟨hok1, hok2⟩ := hok
  have HFL := Lib.hid hfl
  obtain ⟨PS, hPS⟩ : ∃ PS, fl.map (partV rd ra rb im) = PS := ⟨_, rfl⟩
  rw [hPS]
  have HPS : Hid ([] ++ (fl.drop 0).map (partV rd ra rb im) = PS) := Lib.hid hPS
  have HPL : Hid (PS.length = fl.length) := Lib.hid (by rw [← hPS, List.length_map])
  have HDLN := Lib.hid hdl
  have HVR := Lib.hid hv
  have HOK := Lib.hid hok1
  obtain ⟨OUT, hOUT⟩ : ∃ OUT, (if fl = [] then nameV op else nameV op ++ [32] ++ Lib.join PS [44, 32]) = OUT := ⟨_, rfl⟩
  rw [hOUT]
  have HOUT := Lib.hid hOUT
  have HPM : Hid (∀ l ∈ PS, l.length ≤ 30) := Lib.hid (by
    rw [← hPS]
    intro l hl
    obtain ⟨c, _, rfl⟩ := List.mem_map.1 hl
    exact hdl c)
  clear hfl hPS hdl hv hok1 hOUT
  go_enter Tryd.func8, Tryd.ntmps8
  go_wp2_with (first | (refine wlBox (by rfl) 30 _ rfl (insA op rd ra rb im) rfl ?_; intro gI w1 hg hl ha hb; replace HB := keepB HB hb; have HI := Lib.hid ha; have HGI : Hid (w.heap.size ≤ gI) := Lib.hid hg; clear ha hb hg hl) | (refine rowLoad (by rfl) 30 _ rfl gI rfl (cs := insA op rd ra rb im) HI.out Tryd.underlying30 rfl infoIn ?_) | (go_at_call 15; refine (right_any op rd ra rb im _ (HFT.out.below HB.out.1)).mono ?_; rw [HR.out]; rintro e w2 ⟨rfl, hb⟩; replace HB := keepB HB hb; replace HI := keepA HI hb; have i0 : w2.cell? ⟨gI, 0, none⟩ = some (.int .i64 op) := cellA HI 0; clear hb) | (go_at_call 20; refine (form_any op _).mono ?_; rintro e w3 ⟨rfl, rfl⟩) | (go_at_call 19; refine (fields_any (formV op) _).mono ?_; rw [HFL.out]; rintro e w4 ⟨rfl, rfl⟩))
  have HIT0 : Hid ((w2.iter (bs fl) 0).heap[w2.heap.size]? = some (.stringIter (bs fl) 0)) := World.iter_heap w2 (bs fl) 0
  have HWB0 : Hid (w.heap.size ≤ w2.heap.size) := Lib.hid HB.out.2
  have HGB0 : Hid (gI < w2.heap.size) := Lib.hid (Array.getElem?_eq_some_iff.1 HI.out).1
  have hbI : Below w2.heap.size w2 (w2.iter (bs fl) 0) := (Below.refl _ _).alloc (Nat.le_refl _) _
  replace HI := keepA HI hbI
  replace HB := keepBa HB (.stringIter (bs fl) 0)
  have HZB0 : Hid (w2.heap.size + 1 ≤ (w2.iter (bs fl) 0).heap.size) := Lib.hid (Array.getElem?_eq_some_iff.1 HIT0.out).1
  obtain ⟨IB, hIB⟩ : ∃ IB, w2.heap.size = IB := ⟨_, rfl⟩
  rw [hIB] at HIT0 HWB0 HGB0 HZB0
  have HWB : Hid (w.heap.size ≤ IB) := HWB0
  have HWB1 : Hid (w.heap.size ≤ IB + 1) := Lib.hid (Nat.le_succ_of_le HWB0.out)
  have HGB : Hid (gI ≠ IB) := Lib.hid (Nat.ne_of_lt HGB0.out)
  have HGI2 : Hid (gI < IB + 1) := Lib.hid (Nat.lt_succ_of_lt HGB0.out)
  have HO0 : Hid (OwnT (w2.iter (bs fl) 0) (IB + 1) (.slice none 0 0) []) := Lib.hid (own_nil _ _ _)
  rw [hIB]
  clear hbI hIB i0
  go_loopw [3] (fun v wr => ∃ (k : Nat) (acc : List (List UInt8)), k ≤ fl.length ∧ acc.length ≤ 3 ∧ Hid (acc.length = k) ∧ Hid (acc ++ (fl.drop k).map (partV rd ra rb im) = PS) ∧ Hid (OwnT wr (IB + 1) v acc) ∧ Hid (wr.heap[IB]? = some (.stringIter (bs fl) k)) ∧ Hid (wr.heap[gI]? = some (.cells (insA op rd ra rb im) 30 (0, 0))) ∧ Hid (IB + 1 ≤ wr.heap.size) ∧ Hid (Below w.heap.size w wr ∧ w.heap.size ≤ wr.heap.size)) (fun _ wr => fl.length - wr.iterPos IB)
  case atStart => exact ⟨0, [], Nat.zero_le _, by decide, Lib.hid rfl, HPS, HO0, HIT0, HI, HZB0, HB⟩
  case round =>
    clear HPS HO0 HIT0 HI HZB0 HB
    obtain ⟨k, acc, hk, hac, HAL, HPS, HO, HIT, HI, HZB, HB⟩ := hrel
    have hpos : wr.iterPos IB = k := pos_of HIT.out
    by_cases hlt : k < fl.length
    · obtain ⟨x, hx⟩ : ∃ x, fl[k]? = some x := ⟨_, List.getElem?_eq_getElem hlt⟩
      have HX := Lib.hid hx
      have hx4 := HOK.out x (List.mem_of_getElem? hx)
      have hps := HPS.out
      rw [dropP hx, List.map_cons] at hps
      obtain ⟨T, hT⟩ : ∃ T, partV rd ra rb im x = T := ⟨_, rfl⟩
      have hTl : T.length ≤ 30 := by rw [← hT]; exact HDLN.out x
      rw [hT] at hps
      obtain ⟨a2, ha2⟩ : ∃ a2, acc ++ [T] = a2 := ⟨_, rfl⟩
      have HPS2 : Hid (a2 ++ (fl.drop (k + 1)).map (partV rd ra rb im) = PS) := Lib.hid (by rw [← ha2, List.append_assoc]; exact hps)
      have HA2 := Lib.hid ha2
      have HAL2 : Hid (a2.length = k + 1) := Lib.hid (by rw [← ha2, List.length_append, HAL.out]; rfl)
      obtain ⟨V, hV⟩ : ∃ V, valV rd ra rb im (x.toNat : Int) = V := ⟨_, rfl⟩
      have HV := Lib.hid hV
      have hv1 : -9223372036854775808 ≤ V := by rw [← hV]; exact (HVR.out _).1
      have hv2 : V ≤ 9223372036854775807 := by rw [← hV]; exact (HVR.out _).2
      obtain ⟨DL, hDL⟩ : ∃ DL, decL V = DL := ⟨_, rfl⟩
      have HDL := Lib.hid hDL
      have hxl : x.toNat < 128 := by rcases hx4 with h | h | h | h <;> rw [h] <;> decide
      unfold partV at hT
      rw [hV, hDL] at hT
      have hk3 : k + 1 ≤ 3 := by omega
      have hm : fl.length - (k + 1) < fl.length - wr.iterPos IB := by rw [hpos]; omega
      clear hps hx ha2 hV hDL hx4 HPS
      by_cases hc : x = 105
      · rw [if_pos hc] at hT
        subst hT
        have q1 : ((x.toNat : Int) != 105) = false := by rw [hc]; rfl
        clear hc hpos
        go_wp2_with (first | (refine iterLow (by rfl) _ rfl IB rfl HIT.out (by rw [bs_size]; exact hlt) (bAt_getP HX.out) (by omega) ?_; intro w3 hi ho; replace HIT := Lib.hid hi; replace HI := keepAo HI HGB.out ho; replace HO := Lib.hid (own_only HO.out (Nat.lt_succ_self _) ho); replace HB := keepBo HB HWB.out ho; replace HZB : Hid (IB + 1 ≤ w3.heap.size) := Lib.hid (by rw [ho.size]; exact HZB.out); have f0 : w3.cell? ⟨gI, slotV (x.toNat : Int), none⟩ = some (.int .i64 V) := (cellA HI _).trans ((slot_val op rd ra rb im _).trans (by rw [HV.out])); clear hi ho) | (go_at_call 21; refine (field_any gI _ _).mono ?_; rintro e w5 ⟨rfl, rfl⟩) | (go_at_call 11; refine (dec_any2 V _ hv1 hv2).mono ?_; rw [HDL.out]; rintro e w6 ⟨rfl, hb⟩; replace HB := keepB HB hb; replace HI := keepA HI hb; replace HIT := keepA HIT hb; replace HO := Lib.hid (ownk_below HO.out hb); replace HZB := Lib.hid (Nat.le_trans HZB.out hb.size); clear hb) | (refine appOne rfl _ _ 55 9 (.string ⟨#[]⟩) 16 rfl Tryd.underlying55 infoStrP rfl (IB + 1) _ acc.length _ rfl HO.out _ rfl _ rfl (by unfold maxLen; omega) (by omega) HZB.out ?_; intro v2 w7 ho2 hb2; replace HO := Lib.hid (ownT_more ho2 rfl HA2.out); replace HI := keepAg HI HGI2.out hb2; replace HIT := keepAg HIT (Nat.lt_succ_self _) hb2; replace HB := keepBg HB HWB1.out hb2; replace HZB := Lib.hid (Nat.le_trans HZB.out hb2.size); clear ho2 hb2))
        go_roundw
        case rel => exact ⟨k + 1, a2, by omega, by have := HAL2.out; omega, HAL2, HPS2, HO, HIT, HI, HZB, HB⟩
        case measure => rw [pos_of HIT.out]; exact hm
      · rw [if_neg hc] at hT
        have hTD : DL.length ≤ 29 := by rw [← hT] at hTl; simp at hTl; omega
        subst hT
        have q1 : ((x.toNat : Int) != 105) = true := bne_iff_ne.2 (fun q => hc (UInt8.toNat_inj.1 (show x.toNat = 105 by omega)))
        clear hc hpos
        go_wp2_with (first | (refine iterLow (by rfl) _ rfl IB rfl HIT.out (by rw [bs_size]; exact hlt) (bAt_getP HX.out) (by omega) ?_; intro w3 hi ho; replace HIT := Lib.hid hi; replace HI := keepAo HI HGB.out ho; replace HO := Lib.hid (own_only HO.out (Nat.lt_succ_self _) ho); replace HB := keepBo HB HWB.out ho; replace HZB : Hid (IB + 1 ≤ w3.heap.size) := Lib.hid (by rw [ho.size]; exact HZB.out); have f0 : w3.cell? ⟨gI, slotV (x.toNat : Int), none⟩ = some (.int .i64 V) := (cellA HI _).trans ((slot_val op rd ra rb im _).trans (by rw [HV.out])); clear hi ho) | (go_at_call 21; refine (field_any gI _ _).mono ?_; rintro e w5 ⟨rfl, rfl⟩) | (go_at_call 11; refine (dec_any2 V _ hv1 hv2).mono ?_; rw [HDL.out]; rintro e w6 ⟨rfl, hb⟩; replace HB := keepB HB hb; replace HI := keepA HI hb; replace HIT := keepA HIT hb; replace HO := Lib.hid (ownk_below HO.out hb); replace HZB := Lib.hid (Nat.le_trans HZB.out hb.size); clear hb) | (refine strAdd (by rfl) _ _ _ _ rfl (bs [114]) (bs DL) (bs (114 :: DL)) rfl rfl (by rw [bs_size, bs_size]; show 1 + DL.length ≤ _; omega) (bs_add _ _) ?_) | (refine appOne rfl _ _ 55 9 (.string ⟨#[]⟩) 16 rfl Tryd.underlying55 infoStrP rfl (IB + 1) _ acc.length _ rfl HO.out _ rfl _ rfl (by unfold maxLen; omega) (by omega) HZB.out ?_; intro v2 w7 ho2 hb2; replace HO := Lib.hid (ownT_more ho2 rfl HA2.out); replace HI := keepAg HI HGI2.out hb2; replace HIT := keepAg HIT (Nat.lt_succ_self _) hb2; replace HB := keepBg HB HWB1.out hb2; replace HZB := Lib.hid (Nat.le_trans HZB.out hb2.size); clear ho2 hb2))
        go_roundw
        case rel => exact ⟨k + 1, a2, by omega, by have := HAL2.out; omega, HAL2, HPS2, HO, HIT, HI, HZB, HB⟩
        case measure => rw [pos_of HIT.out]; exact hm
    · obtain rfl : k = fl.length := by omega
      have hps := HPS.out
      rw [List.drop_eq_nil_of_le (Nat.le_refl _), List.map_nil, List.append_nil] at hps
      subst hps
      obtain ⟨A, c, rfl⟩ := own_val HO.out
      have i0 : wr.cell? ⟨gI, 0, none⟩ = some (.int .i64 op) := cellA HI 0
      clear hpos
      by_cases h0 : fl.length = 0
      · have e : fl = [] := List.eq_nil_of_length_eq_zero h0
        have q1 : ((acc.length : Int) == 0) = true := beq_iff_eq.2 (by have := HAL.out; omega)
        have ho : nameV op = OUT := by have := HOUT.out; rw [if_pos e] at this; exact this
        subst ho
        clear e h0
        go_wp2_with (first | (refine iterEnd (by rfl) _ rfl IB rfl HIT.out (by rw [bs_size]; omega) ?_) | (go_at_call 22; refine (name_any op _ (tab_below HTB.out HB.out.1)).mono ?_; rintro e w9 ⟨rfl, hb⟩; replace HB := keepB HB hb; try replace HO := Lib.hid (ownk_below HO.out hb); clear hb))
        go_ret
        exact ⟨rfl, HB.out.1⟩
      · have e : ¬ fl = [] := fun q => h0 (by rw [q]; rfl)
        have q1 : ((acc.length : Int) == 0) = false := beq_eq_false_iff_ne.2 (by have := HAL.out; omega)
        have hps0 : 0 < acc.length := by have := HAL.out; omega
        have hps1 : acc.length ≤ 1000000 := by omega
        obtain ⟨J, hJ⟩ : ∃ J, Lib.join acc [44, 32] = J := ⟨_, rfl⟩
        obtain ⟨NL, hNL⟩ : ∃ NL, nameV op = NL := ⟨_, rfl⟩
        have hNl : NL.length ≤ 10 := by rw [← hNL]; exact name_len op
        have hJl : J.length ≤ 96 := by
          rw [← hJ]
          refine Nat.le_trans (joinP_len acc 30 HPM.out) ?_
          have := Nat.mul_le_mul_right (30 + 2) hac
          omega
        have hpj : (Lib.join acc [44, 32]).length ≤ 100000000 := by rw [hJ]; omega
        have ho : NL ++ [32] ++ J = OUT := by have := HOUT.out; rw [if_neg e, hNL, hJ] at this; exact this
        subst ho
        have HJ := Lib.hid hJ
        have HNL := Lib.hid hNL
        have HO2 := Lib.hid hpj
        clear e h0 hJ hNL hpj
        go_wp2_with (first | (refine iterEnd (by rfl) _ rfl IB rfl HIT.out (by rw [bs_size]; omega) ?_) | (go_at_call 22; refine (name_any op _ (tab_below HTB.out HB.out.1)).mono ?_; rw [HNL.out]; rintro e w9 ⟨rfl, hb⟩; replace HB := keepB HB hb; replace HO := Lib.hid (ownk_below HO.out hb); clear hb) | (go_at_call 23; refine (join_any _ (IB + 1) _ acc HO.out hps0 hps1 HO2.out).mono ?_; rw [HJ.out]; rintro e w8 ⟨rfl, hb⟩; replace HB := keepB HB hb; clear hb) | (refine strAdd (by rfl) _ _ _ _ rfl (bs NL) (bs [32]) (bs (NL ++ [32])) rfl rfl (by rw [bs_size, bs_size]; show NL.length + 1 ≤ _; omega) (bs_add _ _) ?_) | (refine strAdd (by rfl) _ _ _ _ rfl (bs (NL ++ [32])) (bs J) (bs (NL ++ [32] ++ J)) rfl rfl (by rw [bs_size, bs_size, List.length_append]; show NL.length + 1 + J.length ≤ _; omega) (bs_add _ _) ?_))
        go_ret
        exact ⟨congrArg (fun l => Ending.returned (Value.string (bs l))) (by simp), HB.out.1⟩
end Go.Proofs.YtaclidjhgpkmpaaDoor.My
