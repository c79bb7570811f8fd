/- Walk: an instruction's text: the reference's, whole. -/
import Derived.Test.YtnlghbnehfgobaaDoorTextRPrint
import Derived.Deep.Cut
set_option linter.unusedVariables false
set_option linter.unusedSimpArgs false
namespace Go.Proofs.YtnlghbnehfgobaaDoor.My
open Go.RowKit
set_option maxRecDepth 100000 in
set_option maxHeartbeats 4000000 in
theorem rprint_any (op rd ra rb im : Int) (w : World) (hv : ∀ c, -9223372036854775808 ≤ valV rd ra rb im c ∧ valV rd ra rb im c ≤ 9223372036854775807) (hdl : ∀ c, (partV rd ra rb im c).length ≤ 30) : Calls Tryd.prog 14 #[.agg (insA op rd ra rb im)] w fun e w' => e = .returned (.string (bs (printV op rd ra rb im))) ∧ Below w.heap.size w w' := by
  have HB := startB w
  obtain ⟨R, hR⟩ : ∃ R, rightI op rd ra rb im = R := ⟨_, rfl⟩
  have HR := Lib.hid hR
  unfold printV
  rw [hR]
  clear hR
  by_cases q0 : R = 0
  rotate_left
  · rw [if_pos q0]
    have q1 : ((R : Int) != 0) = true := bne_iff_ne.2 (by omega)
    clear q0
    go_enter Tryd.func14, Tryd.ntmps14
    go_wp2_with (first | (refine wlBox (by rfl) 27 _ rfl (insA op rd ra rb im) rfl ?_; intro gI w1 hg hl ha hb; replace HB := keepB HB hb; have HI := Lib.hid ha; have i0 : w1.cell? ⟨gI, 0, none⟩ = some (.int .i64 op) := cellA HI 0; clear ha hb hg hl) | (refine rowLoad (by rfl) 27 _ rfl gI rfl (cs := insA op rd ra rb im) HI.out Tryd.underlying27 rfl infoIn ?_) | (go_at_call 15; refine (rright_any op rd ra rb im _).mono ?_; rw [HR.out]; rintro e w2 ⟨rfl, hb⟩; replace HB := keepB HB hb; replace HI := keepA HI hb; have i0 : w2.cell? ⟨gI, 0, none⟩ = some (.int .i64 op) := cellA HI 0; clear hb))
    go_ret
    exact ⟨rfl, HB.out.1⟩
  subst q0
  rw [if_neg (by simp)]
  obtain ⟨fl, hfl⟩ : ∃ fl, fieldsV (formV op) = fl := ⟨_, rfl⟩
  have hok := fields_ok (formV op)
  rw [hfl] at hok ⊢
  obtain ⟨hok1, hok2⟩ := hok
  have HFL := Lib.hid hfl
  obtain ⟨NL, hNL⟩ : ∃ NL, nameV op = NL := ⟨_, rfl⟩
  have hNl : NL.length ≤ 10 := by rw [← hNL]; exact name_len op
  have HNL := Lib.hid hNL
  obtain ⟨PS, hPS⟩ : ∃ PS, fl.map (partV rd ra rb im) = PS := ⟨_, rfl⟩
  have HPS := Lib.hid hPS
  obtain ⟨OUT, hOUT⟩ : ∃ OUT, (if fl = [] then nameV op else nameV op ++ [32] ++ Lib.join (fl.map (partV rd ra rb im)) [44, 32]) = OUT := ⟨_, rfl⟩
  rw [hOUT]
  have HOUT : Hid (accV NL PS fl.length = OUT) := Lib.hid (by
    rw [← hOUT, hNL, hPS]
    unfold accV
    have hpl : PS.length = fl.length := by rw [← hPS, List.length_map]
    by_cases e : fl = []
    · rw [if_pos e, if_pos (by rw [e]; rfl)]
    · rw [if_neg e, if_neg (fun q => e (List.eq_nil_of_length_eq_zero q)), List.take_of_length_le (by omega)])
  have HDLN := Lib.hid hdl
  have HVR := Lib.hid hv
  have HOK := Lib.hid hok1
  clear hfl hNL hPS hOUT hdl hv hok1
  go_enter Tryd.func14, Tryd.ntmps14
  go_wp2_with (first | (refine wlBox (by rfl) 27 _ rfl (insA op rd ra rb im) rfl ?_; intro gI w1 hg hl ha hb; replace HB := keepB HB hb; have HI := Lib.hid ha; have i0 : w1.cell? ⟨gI, 0, none⟩ = some (.int .i64 op) := cellA HI 0; clear ha hb hg hl) | (refine rowLoad (by rfl) 27 _ rfl gI rfl (cs := insA op rd ra rb im) HI.out Tryd.underlying27 rfl infoIn ?_) | (go_at_call 15; refine (rright_any op rd ra rb im _).mono ?_; rw [HR.out]; rintro e w2 ⟨rfl, hb⟩; replace HB := keepB HB hb; replace HI := keepA HI hb; have i0 : w2.cell? ⟨gI, 0, none⟩ = some (.int .i64 op) := cellA HI 0; clear hb) | (go_at_call 10; refine (rname_any op _).mono ?_; rw [HNL.out]; rintro e w9 ⟨rfl, hb⟩; replace HB := keepB HB hb; replace HI := keepA HI hb; have i0 : w9.cell? ⟨gI, 0, none⟩ = some (.int .i64 op) := cellA HI 0; clear hb) | (go_at_call 30; refine (rform_any op _).mono ?_; rintro e w3 ⟨rfl, rfl⟩) | (go_at_call 29; refine (rfields_any (formV op) _).mono ?_; rw [HFL.out]; rintro e w4 ⟨rfl, rfl⟩))
  have HA0 : Hid (NL = accV NL PS 0) := Lib.hid rfl
  clear i0
  go_loopw [3, 5] (fun o i wr => ∃ (k : Nat) (A : List UInt8), k ≤ fl.length ∧ i = .int .i64 k ∧ o = .string (bs A) ∧ A.length ≤ 10 + 40 * k ∧ Hid (A = accV NL PS k) ∧ Hid (wr.heap[gI]? = some (.cells (insA op rd ra rb im) 27 (0, 0))) ∧ Hid (Below w.heap.size w wr ∧ w.heap.size ≤ wr.heap.size)) (fun _ i _ => fl.length - (intOf i).toNat)
  case atStart => exact ⟨0, NL, Nat.zero_le _, by first | trivial | rfl, by first | trivial | rfl, by omega, HA0, HI, HB⟩
  case round =>
    clear HA0 HI HB
    obtain ⟨k, A, hk, rfl, rfl, hA, HA, HI, HB⟩ := hrel
    by_cases hlt : k < fl.length
    · obtain ⟨x, hx⟩ : ∃ x, fl[k]? = some x := ⟨_, List.getElem?_eq_getElem hlt⟩
      have HX := Lib.hid hx
      obtain ⟨T, hT⟩ : ∃ T, partV rd ra rb im x = T := ⟨_, rfl⟩
      have hTl : T.length ≤ 30 := by rw [← hT]; exact HDLN.out x
      have HFD : Hid (∀ wz, Calls Tryd.prog 31 #[.agg (insA op rd ra rb im), .int .u8 (x.toNat : Int)] wz fun e w' => e = .returned (.string (bs T)) ∧ Below wz.heap.size wz w') := Lib.hid (fun wz => by have := rfield_any op rd ra rb im x wz (HOK.out x (List.mem_of_getElem? hx)) HVR.out HDLN.out; rwa [hT] at this)
      have hpk : PS[k]? = some T := by rw [← HPS.out, List.getElem?_map, hx, ← hT]; rfl
      have hps3 : PS.length ≤ 3 := by rw [← HPS.out, List.length_map]; exact hok2
      have hst := accV_step (NL := NL) hpk hps3
      rw [← HA.out] at hst
      obtain ⟨SP, hSP⟩ : ∃ SP : List UInt8, (if k = 0 then [32] else [44, 32]) = SP := ⟨_, rfl⟩
      have hSl : SP.length ≤ 2 := by rw [← hSP]; split <;> decide
      rw [hSP] at hst
      obtain ⟨B, hB⟩ : ∃ B, A ++ SP = B := ⟨_, rfl⟩
      have hBl : B.length ≤ A.length + 2 := by rw [← hB, List.length_append]; omega
      have HB1 := Lib.hid hB
      rw [hB] at hst
      have HB2 := Lib.hid hst
      have hNl2 : (accV NL PS (k + 1)).length ≤ 10 + 40 * (k + 1) := by rw [← hst, List.length_append]; omega
      obtain ⟨A2, hA2⟩ : ∃ A2, accV NL PS (k + 1) = A2 := ⟨_, rfl⟩
      rw [hA2] at HB2 hNl2
      have HA2 := Lib.hid hA2
      clear hx hT hpk hps3 hst hB hA2
      by_cases k0 : k = 0
      · rw [if_pos k0] at hSP
        subst hSP
        have q1 : ((k : Int) == 0) = true := beq_iff_eq.2 (by omega)
        clear k0
        go_wp2_with (refine strAdd (by rfl) _ _ _ _ rfl (bs A) (bs [32]) (bs B) rfl rfl (by rw [bs_size, bs_size]; show A.length + 1 ≤ _; omega) (by rw [bs_add, HB1.out]) ?_)
        replace HI := keepA1 HI
        replace HB := keepB1 HB
        refine rgStart (S := (fun w' => w'.heap[gI]? = some (.cells (insA op rd ra rb im) 27 (0, 0)))) (n := 8) #[false, false, false, false, false, false, false, false] (by kernel_rfl) rfl rfl HI.out (fun hHeld => ?_)
        refine rgTake (i := 0) (N := some 28) (oi := { dst := some 28, op := Op.move (Operand.tmp 3), type := 9, pos := "ref.go:91", after := #[], guard := none }) (v := ?_) #[true, false, false, false, false, false, false, false] rfl rfl (by kernel_rfl) (fun _ _ _ h => h) (Or.inl ⟨by rfl, ?_⟩) hHeld ?_
        rotate_left
        · intro w' hSw; (try dsimp only at hSw); skip; go_simp; try with_reducible rfl
        simp only [Act.put, List.setIfInBounds_toArray, List.set_cons_zero, List.set_cons_succ]
        refine rgTake (i := 1) (N := some 29) (oi := { dst := some 29, op := Op.load 27 (Operand.tmp 1), type := 27, pos := "ref.go:91", after := #[], guard := none }) (v := _) #[true, true, false, false, false, false, false, false] rfl rfl (by kernel_rfl) (fun _ _ _ h => h) (yieldsRow (by rfl) _ _ rfl _ rfl (fun _ h => h) Tryd.underlying27 rfl infoIn) hHeld ?_
        simp only [Act.put, List.setIfInBounds_toArray, List.set_cons_zero, List.set_cons_succ]
        refine rgTake (i := 2) (N := some 30) (oi := { dst := some 30, op := Op.move (Operand.tmp 4), type := 9, pos := "ref.go:91", after := #[], guard := none }) (v := ?_) #[true, true, true, false, false, false, false, false] rfl rfl (by kernel_rfl) (fun _ _ _ h => h) (Or.inl ⟨by rfl, ?_⟩) hHeld ?_
        rotate_left
        · intro w' hSw; (try dsimp only at hSw); skip; go_simp; try with_reducible rfl
        simp only [Act.put, List.setIfInBounds_toArray, List.set_cons_zero, List.set_cons_succ]
        refine rgTake (i := 3) (N := some 31) (oi := { dst := some 31, op := Op.move (Operand.tmp 5), type := 3, pos := "ref.go:91", after := #[], guard := none }) (v := ?_) #[true, true, true, true, false, false, false, false] rfl rfl (by kernel_rfl) (fun _ _ _ h => h) (Or.inl ⟨by rfl, ?_⟩) hHeld ?_
        rotate_left
        · intro w' hSw; (try dsimp only at hSw); skip; go_simp; try with_reducible rfl
        simp only [Act.put, List.setIfInBounds_toArray, List.set_cons_zero, List.set_cons_succ]
        refine rgTake (i := 4) (N := some 32) (oi := { dst := some 32, op := Op.index 9 (Operand.tmp 30) (Operand.tmp 31), type := 5, pos := "ref.go:91", after := #[{ on := 2, ground := Ground.data }, { on := 3, ground := Ground.data }], guard := none }) (v := _) #[true, true, true, true, true, false, false, false] rfl rfl (by kernel_rfl) (fun _ _ _ h => h) (yieldsStrP (by rfl) _ _ _ rfl Tryd.underlying9 (bs fl) rfl _ _ rfl k x.toNat rfl (by rw [bs_size]; exact hlt) (bAt_getP HX.out)) hHeld ?_
        simp only [Act.put, List.setIfInBounds_toArray, List.set_cons_zero, List.set_cons_succ]
        refine rgCall (i := 5) (N := some 33) (oi := { dst := some 33, op := Op.call { callee := Callee.value (Operand.func 31), args := #[Operand.tmp 29, Operand.tmp 32], argTypes := #[27, 5] }, type := 9, pos := "ref.go:91", after := #[{ on := 1, ground := Ground.data }, { on := 4, ground := Ground.data }], guard := none }) #[true, true, true, true, true, true, false, false] rfl rfl (by kernel_rfl) (fun K hK => ?_)
        go_simp
        (go_at_call 31; refine (HFD.out _).mono ?_; rintro e w5 ⟨rfl, hb⟩; replace HI := keepA HI hb; replace HB := keepB HB hb; clear hb)
        refine hK.out _ _ HI.out (fun hHeld => ?_)
        (try simp only [Act.put, List.setIfInBounds_toArray, List.set_cons_zero, List.set_cons_succ])
        clear hK K
        refine rgTake (i := 6) (N := some 34) (oi := { dst := some 34, op := Op.binOp BinOp.add 9 (Operand.tmp 28) (Operand.tmp 33) 9, type := 9, pos := "ref.go:91", after := #[{ on := 0, ground := Ground.data }, { on := 5, ground := Ground.data }], guard := none }) (v := _) #[true, true, true, true, true, true, true, false] rfl rfl (by kernel_rfl) (fun _ _ _ h => h) (yieldsCatP (by rfl) _ _ _ _ rfl B T rfl rfl (by omega) _ HB2.out) hHeld ?_
        simp only [Act.put, List.setIfInBounds_toArray, List.set_cons_zero, List.set_cons_succ]
        refine rgTake (i := 7) (N := some 3) (oi := { dst := some 3, op := Op.assign (Operand.tmp 34), type := 9, pos := "ref.go:91", after := #[{ on := 6, ground := Ground.data }, { on := 5, ground := Ground.chain }, { on := 0, ground := Ground.phase }, { on := 1, ground := Ground.phase }, { on := 2, ground := Ground.phase }, { on := 3, ground := Ground.phase }, { on := 4, ground := Ground.phase }, { on := 5, ground := Ground.phase }, { on := 6, ground := Ground.phase }], guard := none }) (v := ?_) #[true, true, true, true, true, true, true, true] rfl rfl (by kernel_rfl) (fun _ _ _ h => h) (Or.inl ⟨by rfl, ?_⟩) hHeld ?_
        rotate_left
        · intro w' hSw; (try dsimp only at hSw); skip; go_simp; try with_reducible rfl
        simp only [Act.put, List.setIfInBounds_toArray, List.set_cons_zero, List.set_cons_succ]
        refine rgDone (by kernel_rfl) ?_ _
        go_wp2
        go_roundw
        case rel => exact ⟨k + 1, A2, by omega, by first | trivial | go_num, by first | trivial | rfl, hNl2, Lib.hid HA2.out.symm, HI, HB⟩
        case measure => simp [intOf]; omega
      · rw [if_neg k0] at hSP
        subst hSP
        have q1 : ((k : Int) == 0) = false := beq_eq_false_iff_ne.2 (by omega)
        go_wp2_with (refine strAdd (by rfl) _ _ _ _ rfl (bs A) (bs [44, 32]) (bs B) rfl rfl (by rw [bs_size, bs_size]; show A.length + 2 ≤ _; omega) (by rw [bs_add, HB1.out]) ?_)
        replace HI := keepA1 HI
        replace HB := keepB1 HB
        refine rgStart (S := (fun w' => w'.heap[gI]? = some (.cells (insA op rd ra rb im) 27 (0, 0)))) (n := 8) #[false, false, false, false, false, false, false, false] (by kernel_rfl) rfl rfl HI.out (fun hHeld => ?_)
        refine rgTake (i := 0) (N := some 28) (oi := { dst := some 28, op := Op.move (Operand.tmp 3), type := 9, pos := "ref.go:91", after := #[], guard := none }) (v := ?_) #[true, false, false, false, false, false, false, false] rfl rfl (by kernel_rfl) (fun _ _ _ h => h) (Or.inl ⟨by rfl, ?_⟩) hHeld ?_
        rotate_left
        · intro w' hSw; (try dsimp only at hSw); skip; go_simp; try with_reducible rfl
        simp only [Act.put, List.setIfInBounds_toArray, List.set_cons_zero, List.set_cons_succ]
        refine rgTake (i := 1) (N := some 29) (oi := { dst := some 29, op := Op.load 27 (Operand.tmp 1), type := 27, pos := "ref.go:91", after := #[], guard := none }) (v := _) #[true, true, false, false, false, false, false, false] rfl rfl (by kernel_rfl) (fun _ _ _ h => h) (yieldsRow (by rfl) _ _ rfl _ rfl (fun _ h => h) Tryd.underlying27 rfl infoIn) hHeld ?_
        simp only [Act.put, List.setIfInBounds_toArray, List.set_cons_zero, List.set_cons_succ]
        refine rgTake (i := 2) (N := some 30) (oi := { dst := some 30, op := Op.move (Operand.tmp 4), type := 9, pos := "ref.go:91", after := #[], guard := none }) (v := ?_) #[true, true, true, false, false, false, false, false] rfl rfl (by kernel_rfl) (fun _ _ _ h => h) (Or.inl ⟨by rfl, ?_⟩) hHeld ?_
        rotate_left
        · intro w' hSw; (try dsimp only at hSw); skip; go_simp; try with_reducible rfl
        simp only [Act.put, List.setIfInBounds_toArray, List.set_cons_zero, List.set_cons_succ]
        refine rgTake (i := 3) (N := some 31) (oi := { dst := some 31, op := Op.move (Operand.tmp 5), type := 3, pos := "ref.go:91", after := #[], guard := none }) (v := ?_) #[true, true, true, true, false, false, false, false] rfl rfl (by kernel_rfl) (fun _ _ _ h => h) (Or.inl ⟨by rfl, ?_⟩) hHeld ?_
        rotate_left
        · intro w' hSw; (try dsimp only at hSw); skip; go_simp; try with_reducible rfl
        simp only [Act.put, List.setIfInBounds_toArray, List.set_cons_zero, List.set_cons_succ]
        refine rgTake (i := 4) (N := some 32) (oi := { dst := some 32, op := Op.index 9 (Operand.tmp 30) (Operand.tmp 31), type := 5, pos := "ref.go:91", after := #[{ on := 2, ground := Ground.data }, { on := 3, ground := Ground.data }], guard := none }) (v := _) #[true, true, true, true, true, false, false, false] rfl rfl (by kernel_rfl) (fun _ _ _ h => h) (yieldsStrP (by rfl) _ _ _ rfl Tryd.underlying9 (bs fl) rfl _ _ rfl k x.toNat rfl (by rw [bs_size]; exact hlt) (bAt_getP HX.out)) hHeld ?_
        simp only [Act.put, List.setIfInBounds_toArray, List.set_cons_zero, List.set_cons_succ]
        refine rgCall (i := 5) (N := some 33) (oi := { dst := some 33, op := Op.call { callee := Callee.value (Operand.func 31), args := #[Operand.tmp 29, Operand.tmp 32], argTypes := #[27, 5] }, type := 9, pos := "ref.go:91", after := #[{ on := 1, ground := Ground.data }, { on := 4, ground := Ground.data }], guard := none }) #[true, true, true, true, true, true, false, false] rfl rfl (by kernel_rfl) (fun K hK => ?_)
        go_simp
        (go_at_call 31; refine (HFD.out _).mono ?_; rintro e w5 ⟨rfl, hb⟩; replace HI := keepA HI hb; replace HB := keepB HB hb; clear hb)
        refine hK.out _ _ HI.out (fun hHeld => ?_)
        (try simp only [Act.put, List.setIfInBounds_toArray, List.set_cons_zero, List.set_cons_succ])
        clear hK K
        refine rgTake (i := 6) (N := some 34) (oi := { dst := some 34, op := Op.binOp BinOp.add 9 (Operand.tmp 28) (Operand.tmp 33) 9, type := 9, pos := "ref.go:91", after := #[{ on := 0, ground := Ground.data }, { on := 5, ground := Ground.data }], guard := none }) (v := _) #[true, true, true, true, true, true, true, false] rfl rfl (by kernel_rfl) (fun _ _ _ h => h) (yieldsCatP (by rfl) _ _ _ _ rfl B T rfl rfl (by omega) _ HB2.out) hHeld ?_
        simp only [Act.put, List.setIfInBounds_toArray, List.set_cons_zero, List.set_cons_succ]
        refine rgTake (i := 7) (N := some 3) (oi := { dst := some 3, op := Op.assign (Operand.tmp 34), type := 9, pos := "ref.go:91", after := #[{ on := 6, ground := Ground.data }, { on := 5, ground := Ground.chain }, { on := 0, ground := Ground.phase }, { on := 1, ground := Ground.phase }, { on := 2, ground := Ground.phase }, { on := 3, ground := Ground.phase }, { on := 4, ground := Ground.phase }, { on := 5, ground := Ground.phase }, { on := 6, ground := Ground.phase }], guard := none }) (v := ?_) #[true, true, true, true, true, true, true, true] rfl rfl (by kernel_rfl) (fun _ _ _ h => h) (Or.inl ⟨by rfl, ?_⟩) hHeld ?_
        rotate_left
        · intro w' hSw; (try dsimp only at hSw); skip; go_simp; try with_reducible rfl
        simp only [Act.put, List.setIfInBounds_toArray, List.set_cons_zero, List.set_cons_succ]
        refine rgDone (by kernel_rfl) ?_ _
        go_wp2
        go_roundw
        case rel => exact ⟨k + 1, A2, by omega, by first | trivial | go_num, by first | trivial | rfl, hNl2, Lib.hid HA2.out.symm, HI, HB⟩
        case measure => simp [intOf]; omega
    · obtain rfl : k = fl.length := by omega
      have ho : A = OUT := HA.out.trans HOUT.out
      subst ho
      go_wp2
      go_ret
      exact ⟨rfl, HB.out.1⟩
end Go.Proofs.YtnlghbnehfgobaaDoor.My
