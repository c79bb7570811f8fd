/- The laws of texts, walked: what is read, and that two told alike are one. -/
import Derived.Test.YtnlghbnehfgobaaDoorTextLaws
set_option linter.unusedVariables false
set_option linter.unusedSimpArgs false
namespace Go.Proofs.YtnlghbnehfgobaaDoor.My
open Go.RowKit
theorem right_ok {op : Int} {q : Q4} (h : rightQ op q = 0) : q.ok := i64_at h
theorem par_ok {s : List UInt8} (h : opV (headV s) ≠ 0 ∨ True) : (parP s).e = 0 → s ≠ [] → (parP s).q.ok := fun h0 hs => by
  rcases par_e s with ⟨_, h2⟩ | ⟨_, _, h3⟩
  · by_cases r : rightQ (parP s).op (parP s).q = 0
    · exact right_ok r
    · rw [print_wrong r] at h2; exact absurd h2.symm hs
  · omega
theorem par_nil : (parP []).e = 9 := by
  unfold parP
  rw [if_pos (show opV (headV []) = 0 from op_none)]
set_option maxRecDepth 100000 in
set_option maxHeartbeats 4000000 in
theorem tparses_any (s : List UInt8) (m : Int) (w : World) (hS : St m w) (hl : s.length ≤ maxLen) : Calls Tryd.prog 5 #[.string (bs s)] w fun e w' => e = .returned (.bool true) ∧ Below w.heap.size w w' := by
  have HB := startB w
  have HS := Lib.hid hS
  unfold maxLen at hl
  have hz : (bs s).size ≤ 9223372036854775807 := by rw [bs_size]; omega
  clear hS hl
  by_cases h2 : 200 < (bs s).size
  · go_enter Tryd.func5, Tryd.ntmps5
    go_wp2_with (go_at_call 8; refine (awake_any m _ (St.below HS HB)).mono ?_; rintro e wz ⟨rfl, hb⟩; replace HB := keepB HB hb; clear hb)
    go_ret
    exact ⟨rfl, HB.out.1⟩
  have hsl : s.length ≤ 200 := by rw [bs_size] at h2; omega
  have hpe := par_e s
  have hok := par_ok (s := s) (.inr trivial)
  have hnil : (parP s).e = 0 → s ≠ [] := fun h0 e => by rw [e, par_nil] at h0; cases h0
  obtain ⟨⟨op, q, E⟩, hZ⟩ : ∃ x, parP s = x := ⟨_, rfl⟩
  rw [hZ] at hpe hok hnil
  have HPA : Hid (∀ w', St m w' → Calls Tryd.prog 16 #[.string (bs s)] w' fun e w'' => e = .returned (.tuple #[.agg (insQ op q), .int .i64 E]) ∧ Below w'.heap.size w' w'') := Lib.hid (fun w' h => by
    have := parse_st s w' (by omega) h
    rw [hZ] at this
    exact this)
  have HRP : Hid (∀ w', Calls Tryd.prog 17 #[.string (bs s)] w' fun e w'' => e = .returned (.tuple #[.agg (insQ op q), .int .i64 E]) ∧ Below w'.heap.size w' w'') := Lib.hid (fun w' => by
    have := trparse_any s w' (by omega)
    rw [hZ] at this
    exact this)
  have q3 := eqlIn op q
  by_cases h0 : E = 0
  · subst h0
    have hq : q.ok := hok rfl (hnil rfl)
    obtain ⟨P, hP⟩ : ∃ N, printQ op q = N := ⟨_, rfl⟩
    have HP : Hid (∀ w', St m w' → Calls Tryd.prog 13 #[.agg (insQ op q)] w' fun e w'' => e = .returned (.string (bs P)) ∧ Below w'.heap.size w' w'') := Lib.hid (fun w' h => by have := print_st op q w' hq h; rwa [hP] at this)
    have q1 : ((bs P).toList == (bs s).toList) = true := by
      rcases hpe with ⟨_, h2⟩ | ⟨_, _, h3⟩
      · have e : P = s := by rw [← hP]; exact h2
        rw [e]; exact eqS s
      · have h4 : (0 : Int) = 2 ∨ (0 : Int) = 9 := h3
        omega
    clear hpe hok hnil hZ hP
    go_enter Tryd.func5, Tryd.ntmps5
    go_upto_region 4 with (first | (go_at_call 16; refine (HPA.out _ (St.below HS HB)).mono ?_; rintro e w5 ⟨rfl, hb⟩; replace HB := keepB HB hb; clear hb) | (refine wlAlloc (by rfl) 27 rfl (insA 0 0 0 0 0) zeroIn ?_; intro gI w1 hg hl ha hb; have HGI : Hid (w.heap.size ≤ gI) := Lib.hid (Nat.le_trans HB.out.2 hg); replace HB := keepB HB hb; have HI := Lib.hid ha; clear ha hb hg hl) | (refine rowStore (by rfl) 27 _ _ rfl gI rfl (insQ op q) rfl HI.out infoIn rfl (insQ_one _ _) ?_; intro w7 ha ho; replace HI := Lib.hid ha; replace HB := keepBo HB HGI.out ho; clear ha ho))
    go_upto_region 5 with (first | (go_at_call 17; refine (HRP.out _).mono ?_; rintro e w3 ⟨rfl, hb⟩; replace HB := keepB HB hb; replace HI := keepA HI hb; clear hb) | (refine wlAlloc (by rfl) 27 rfl (insA 0 0 0 0 0) zeroIn ?_; intro gJ w6 hg hl ha hb; have HGJ : Hid (w.heap.size ≤ gJ) := Lib.hid (Nat.le_trans HB.out.2 hg); have HNJ : Hid (gI ≠ gJ) := Lib.hid (Nat.ne_of_lt (Nat.lt_of_lt_of_le (Array.getElem?_eq_some_iff.1 HI.out).1 hg)); replace HB := keepB HB hb; replace HI := keepA HI hb; have HJ := Lib.hid ha; clear ha hb hg hl) | (refine rowStore (by rfl) 27 _ _ rfl gJ rfl (insQ op q) rfl HJ.out infoIn rfl (insQ_one _ _) ?_; intro w7 ha ho; replace HJ := Lib.hid ha; replace HI := keepAo HI HNJ.out ho; replace HB := keepBo HB HGJ.out ho; clear ha ho))
    go_wp2_with (first | (refine rowLoad (by rfl) 27 _ rfl gI rfl (cs := insQ op q) HI.out Tryd.underlying27 rfl infoIn ?_) | (refine rowLoad (by rfl) 27 _ rfl gJ rfl (cs := insQ op q) HJ.out Tryd.underlying27 rfl infoIn ?_) | (go_at_call 13; refine (HP.out _ (St.below HS HB)).mono ?_; rintro e w2 ⟨rfl, hb⟩; replace HB := keepB HB hb; replace HI := keepA HI hb; clear hb) | (go_at_call 8; refine (awake_any m _ (St.below HS HB)).mono ?_; rintro e wz ⟨rfl, hb⟩; replace HB := keepB HB hb; clear hb))
    go_ret
    exact ⟨rfl, HB.out.1⟩
  · have q4 : (E != 0) = true := bne_iff_ne.2 h0
    clear hpe hok hnil hZ h0
    go_enter Tryd.func5, Tryd.ntmps5
    go_upto_region 4 with (first | (go_at_call 16; refine (HPA.out _ (St.below HS HB)).mono ?_; rintro e w5 ⟨rfl, hb⟩; replace HB := keepB HB hb; clear hb) | (refine wlAlloc (by rfl) 27 rfl (insA 0 0 0 0 0) zeroIn ?_; intro gI w1 hg hl ha hb; have HGI : Hid (w.heap.size ≤ gI) := Lib.hid (Nat.le_trans HB.out.2 hg); replace HB := keepB HB hb; have HI := Lib.hid ha; clear ha hb hg hl) | (refine rowStore (by rfl) 27 _ _ rfl gI rfl (insQ op q) rfl HI.out infoIn rfl (insQ_one _ _) ?_; intro w7 ha ho; replace HI := Lib.hid ha; replace HB := keepBo HB HGI.out ho; clear ha ho))
    go_upto_region 5 with (first | (go_at_call 17; refine (HRP.out _).mono ?_; rintro e w3 ⟨rfl, hb⟩; replace HB := keepB HB hb; replace HI := keepA HI hb; clear hb) | (refine wlAlloc (by rfl) 27 rfl (insA 0 0 0 0 0) zeroIn ?_; intro gJ w6 hg hl ha hb; have HGJ : Hid (w.heap.size ≤ gJ) := Lib.hid (Nat.le_trans HB.out.2 hg); have HNJ : Hid (gI ≠ gJ) := Lib.hid (Nat.ne_of_lt (Nat.lt_of_lt_of_le (Array.getElem?_eq_some_iff.1 HI.out).1 hg)); replace HB := keepB HB hb; replace HI := keepA HI hb; have HJ := Lib.hid ha; clear ha hb hg hl) | (refine rowStore (by rfl) 27 _ _ rfl gJ rfl (insQ op q) rfl HJ.out infoIn rfl (insQ_one _ _) ?_; intro w7 ha ho; replace HJ := Lib.hid ha; replace HI := keepAo HI HNJ.out ho; replace HB := keepBo HB HGJ.out ho; clear ha ho))
    go_wp2_with (first | (refine rowLoad (by rfl) 27 _ rfl gI rfl (cs := insQ op q) HI.out Tryd.underlying27 rfl infoIn ?_) | (refine rowLoad (by rfl) 27 _ rfl gJ rfl (cs := insQ op q) HJ.out Tryd.underlying27 rfl infoIn ?_) | (go_at_call 8; refine (awake_any m _ (St.below HS HB)).mono ?_; rintro e wz ⟨rfl, hb⟩; replace HB := keepB HB hb; clear hb))
    go_ret
    exact ⟨rfl, HB.out.1⟩
structure PrintIs (op : Int) (q : Q4) (P : List UInt8) : Prop where
  ok : q.ok
  eq : printQ op q = P
set_option maxRecDepth 100000 in
set_option maxHeartbeats 4000000 in
theorem tonce_any (op op2 : Int) (q q2 : Q4) (hq : q.ok) (hq2 : q2.ok) (m : Int) (w : World) (hS : St m w) : Calls Tryd.prog 6 #[.agg (insQ op q), .agg (insQ op2 q2)] w fun e w' => e = .returned (.bool true) ∧ Below w.heap.size w w' := by
  have HB := startB w
  have HS := Lib.hid hS
  clear hS
  obtain ⟨P, hP⟩ : ∃ N, printQ op q = N := ⟨_, rfl⟩
  obtain ⟨P2, hP2⟩ : ∃ N, printQ op2 q2 = N := ⟨_, rfl⟩
  have HPI : PrintIs op q P := ⟨hq, hP⟩
  have HPJ : PrintIs op2 q2 P2 := ⟨hq2, hP2⟩
  have HP : Hid (∀ w', St m w' → ∀ op q P, PrintIs op q P → Calls Tryd.prog 13 #[.agg (insQ op q)] w' fun e w'' => e = .returned (.string (bs P)) ∧ Below w'.heap.size w' w'') := Lib.hid (fun w' h op q P hp => by have := print_st op q w' hp.ok h; rwa [hp.eq] at this)
  have q9 := eqS P
  by_cases hsame : op = op2 ∧ q = q2
  · obtain ⟨rfl, rfl⟩ := hsame
    obtain rfl : P = P2 := hP.symm.trans hP2
    have t1 := eqlIn op q
    have t2 := neqIn op q
    by_cases hn : P = []
    · have q3 : ((bs P).toList == []) = true := by rw [toL, hn]; rfl
      clear hP hP2 hq hq2 hn HPJ
      go_enter Tryd.func6, Tryd.ntmps6
      go_upto_region 1 with (first | (refine wlBox (by rfl) 27 _ rfl (insQ op q) rfl ?_; intro gJ w2 hg hl ha hb; have HGJ : Hid (w.heap.size ≤ gJ) := Lib.hid (Nat.le_trans HB.out.2 hg); replace HB := keepB HB hb; replace HI := keepA HI hb; have HJ := Lib.hid ha; clear ha hb hg hl) | (refine wlBox (by rfl) 27 _ rfl (insQ op q) rfl ?_; intro gI w1 hg hl ha hb; have HGI : Hid (w.heap.size ≤ gI) := Lib.hid (Nat.le_trans HB.out.2 hg); replace HB := keepB HB hb; have HI := Lib.hid ha; have tok := hl; clear ha hb hg hl))
      replace HI := keepA1 HI
      replace HJ := keepA1 HJ
      replace HB := keepB1 HB
      refine rgStart (S := (fun w' => w'.heap[gI]? = some (.cells (insQ op q) 27 (0, 0)) ∧ w'.heap[gJ]? = some (.cells (insQ op q) 27 (0, 0)))) (n := 6) #[false, false, false, false, false, false] (by kernel_rfl) rfl rfl ⟨HI.out, HJ.out⟩ (fun hHeld => ?_)
      refine rgTake (i := 0) (N := some 7) (oi := { dst := some 7, op := Op.load 27 (Operand.tmp 2), type := 27, pos := "law.go:53", after := #[], guard := none }) (v := _) #[true, false, false, false, false, false] rfl rfl (by kernel_rfl) (fun _ _ _ h => h) (yieldsRow (by rfl) _ _ rfl gI rfl (fun _ h => h.1) Tryd.underlying27 rfl infoIn) hHeld ?_
      simp only [Act.put, List.setIfInBounds_toArray, List.set_cons_zero, List.set_cons_succ]
      refine rgTake (i := 2) (N := some 9) (oi := { dst := some 9, op := Op.load 27 (Operand.tmp 3), type := 27, pos := "law.go:53", after := #[], guard := none }) (v := _) #[true, false, true, false, false, false] rfl rfl (by kernel_rfl) (fun _ _ _ h => h) (yieldsRow (by rfl) _ _ rfl gJ rfl (fun _ h => h.2) Tryd.underlying27 rfl infoIn) hHeld ?_
      simp only [Act.put, List.setIfInBounds_toArray, List.set_cons_zero, List.set_cons_succ]
      refine rgCall (i := 1) (N := some 8) (oi := { dst := some 8, op := Op.call { callee := Callee.value (Operand.func 13), args := #[Operand.tmp 7], argTypes := #[27] }, type := 9, pos := "law.go:53", after := #[{ on := 0, ground := Ground.data }], guard := none }) #[true, true, true, false, false, false] rfl rfl (by kernel_rfl) (fun K hK => ?_)
      go_simp
      (go_at_call 13; refine (HP.out _ (St.below HS HB) _ _ _ (by assumption)).mono ?_; rintro e w5 ⟨rfl, hb⟩; replace HI := keepA HI hb; replace HJ := keepA HJ hb; replace HB := keepB HB hb; clear hb)
      refine hK.out _ _ ⟨HI.out, HJ.out⟩ (fun hHeld => ?_)
      (try simp only [Act.put, List.setIfInBounds_toArray, List.set_cons_zero, List.set_cons_succ])
      clear hK K
      refine rgCall (i := 3) (N := some 10) (oi := { dst := some 10, op := Op.call { callee := Callee.value (Operand.func 13), args := #[Operand.tmp 9], argTypes := #[27] }, type := 9, pos := "law.go:53", after := #[{ on := 2, ground := Ground.data }, { on := 1, ground := Ground.chain }], guard := none }) #[true, true, true, true, false, false] rfl rfl (by kernel_rfl) (fun K hK => ?_)
      go_simp
      (go_at_call 13; refine (HP.out _ (St.below HS HB) _ _ _ (by assumption)).mono ?_; rintro e w5 ⟨rfl, hb⟩; replace HI := keepA HI hb; replace HJ := keepA HJ hb; replace HB := keepB HB hb; clear hb)
      refine hK.out _ _ ⟨HI.out, HJ.out⟩ (fun hHeld => ?_)
      (try simp only [Act.put, List.setIfInBounds_toArray, List.set_cons_zero, List.set_cons_succ])
      clear hK K
      refine rgTake (i := 4) (N := some 5) (oi := { dst := some 5, op := Op.assign (Operand.tmp 8), type := 9, pos := "law.go:53", after := #[{ on := 1, ground := Ground.data }, { on := 3, ground := Ground.chain }, { on := 0, ground := Ground.phase }, { on := 1, ground := Ground.phase }, { on := 2, ground := Ground.textOnly Departure.lateStores }, { on := 3, ground := Ground.textOnly Departure.lateStoresUnsure }], guard := none }) (v := ?_) #[true, true, true, true, true, false] rfl rfl (by kernel_rfl) (fun _ _ _ h => h) (Or.inl ⟨by rfl, ?_⟩) hHeld ?_
      rotate_left
      · intro w' hSw; (try dsimp only at hSw); skip; go_simp; try with_reducible rfl
      simp only [Act.put, List.setIfInBounds_toArray, List.set_cons_zero, List.set_cons_succ]
      refine rgTake (i := 5) (N := some 6) (oi := { dst := some 6, op := Op.assign (Operand.tmp 10), type := 9, pos := "law.go:53", after := #[{ on := 3, ground := Ground.data }, { on := 4, ground := Ground.chain }, { on := 0, ground := Ground.phase }, { on := 1, ground := Ground.phase }, { on := 2, ground := Ground.phase }, { on := 3, ground := Ground.phase }, { on := 4, ground := Ground.phase }], guard := none }) (v := ?_) #[true, true, true, true, true, true] rfl rfl (by kernel_rfl) (fun _ _ _ h => h) (Or.inl ⟨by rfl, ?_⟩) hHeld ?_
      rotate_left
      · intro w' hSw; (try dsimp only at hSw); skip; go_simp; try with_reducible rfl
      simp only [Act.put, List.setIfInBounds_toArray, List.set_cons_zero, List.set_cons_succ]
      refine rgDone (by kernel_rfl) ?_ _
      go_wp2_with (first | (refine rowLoad (by rfl) 27 _ rfl gI rfl (cs := insQ op q) HI.out Tryd.underlying27 rfl infoIn ?_) | (refine rowLoad (by rfl) 27 _ rfl gJ rfl (cs := insQ op q) HJ.out Tryd.underlying27 rfl infoIn ?_) | (go_at_call 8; refine (awake_any m _ (St.below HS HB)).mono ?_; rintro e wz ⟨rfl, hb⟩; replace HB := keepB HB hb; clear hb))
      go_ret
      exact ⟨rfl, HB.out.1⟩
    · have q3 : ((bs P).toList == []) = false := by rw [toL]; exact beq_eq_false_iff_ne.2 hn
      clear hP hP2 hq hq2 hn HPJ
      go_enter Tryd.func6, Tryd.ntmps6
      go_upto_region 1 with (first | (refine wlBox (by rfl) 27 _ rfl (insQ op q) rfl ?_; intro gJ w2 hg hl ha hb; have HGJ : Hid (w.heap.size ≤ gJ) := Lib.hid (Nat.le_trans HB.out.2 hg); replace HB := keepB HB hb; replace HI := keepA HI hb; have HJ := Lib.hid ha; clear ha hb hg hl) | (refine wlBox (by rfl) 27 _ rfl (insQ op q) rfl ?_; intro gI w1 hg hl ha hb; have HGI : Hid (w.heap.size ≤ gI) := Lib.hid (Nat.le_trans HB.out.2 hg); replace HB := keepB HB hb; have HI := Lib.hid ha; have tok := hl; clear ha hb hg hl))
      replace HI := keepA1 HI
      replace HJ := keepA1 HJ
      replace HB := keepB1 HB
      refine rgStart (S := (fun w' => w'.heap[gI]? = some (.cells (insQ op q) 27 (0, 0)) ∧ w'.heap[gJ]? = some (.cells (insQ op q) 27 (0, 0)))) (n := 6) #[false, false, false, false, false, false] (by kernel_rfl) rfl rfl ⟨HI.out, HJ.out⟩ (fun hHeld => ?_)
      refine rgTake (i := 0) (N := some 7) (oi := { dst := some 7, op := Op.load 27 (Operand.tmp 2), type := 27, pos := "law.go:53", after := #[], guard := none }) (v := _) #[true, false, false, false, false, false] rfl rfl (by kernel_rfl) (fun _ _ _ h => h) (yieldsRow (by rfl) _ _ rfl gI rfl (fun _ h => h.1) Tryd.underlying27 rfl infoIn) hHeld ?_
      simp only [Act.put, List.setIfInBounds_toArray, List.set_cons_zero, List.set_cons_succ]
      refine rgTake (i := 2) (N := some 9) (oi := { dst := some 9, op := Op.load 27 (Operand.tmp 3), type := 27, pos := "law.go:53", after := #[], guard := none }) (v := _) #[true, false, true, false, false, false] rfl rfl (by kernel_rfl) (fun _ _ _ h => h) (yieldsRow (by rfl) _ _ rfl gJ rfl (fun _ h => h.2) Tryd.underlying27 rfl infoIn) hHeld ?_
      simp only [Act.put, List.setIfInBounds_toArray, List.set_cons_zero, List.set_cons_succ]
      refine rgCall (i := 1) (N := some 8) (oi := { dst := some 8, op := Op.call { callee := Callee.value (Operand.func 13), args := #[Operand.tmp 7], argTypes := #[27] }, type := 9, pos := "law.go:53", after := #[{ on := 0, ground := Ground.data }], guard := none }) #[true, true, true, false, false, false] rfl rfl (by kernel_rfl) (fun K hK => ?_)
      go_simp
      (go_at_call 13; refine (HP.out _ (St.below HS HB) _ _ _ (by assumption)).mono ?_; rintro e w5 ⟨rfl, hb⟩; replace HI := keepA HI hb; replace HJ := keepA HJ hb; replace HB := keepB HB hb; clear hb)
      refine hK.out _ _ ⟨HI.out, HJ.out⟩ (fun hHeld => ?_)
      (try simp only [Act.put, List.setIfInBounds_toArray, List.set_cons_zero, List.set_cons_succ])
      clear hK K
      refine rgCall (i := 3) (N := some 10) (oi := { dst := some 10, op := Op.call { callee := Callee.value (Operand.func 13), args := #[Operand.tmp 9], argTypes := #[27] }, type := 9, pos := "law.go:53", after := #[{ on := 2, ground := Ground.data }, { on := 1, ground := Ground.chain }], guard := none }) #[true, true, true, true, false, false] rfl rfl (by kernel_rfl) (fun K hK => ?_)
      go_simp
      (go_at_call 13; refine (HP.out _ (St.below HS HB) _ _ _ (by assumption)).mono ?_; rintro e w5 ⟨rfl, hb⟩; replace HI := keepA HI hb; replace HJ := keepA HJ hb; replace HB := keepB HB hb; clear hb)
      refine hK.out _ _ ⟨HI.out, HJ.out⟩ (fun hHeld => ?_)
      (try simp only [Act.put, List.setIfInBounds_toArray, List.set_cons_zero, List.set_cons_succ])
      clear hK K
      refine rgTake (i := 4) (N := some 5) (oi := { dst := some 5, op := Op.assign (Operand.tmp 8), type := 9, pos := "law.go:53", after := #[{ on := 1, ground := Ground.data }, { on := 3, ground := Ground.chain }, { on := 0, ground := Ground.phase }, { on := 1, ground := Ground.phase }, { on := 2, ground := Ground.textOnly Departure.lateStores }, { on := 3, ground := Ground.textOnly Departure.lateStoresUnsure }], guard := none }) (v := ?_) #[true, true, true, true, true, false] rfl rfl (by kernel_rfl) (fun _ _ _ h => h) (Or.inl ⟨by rfl, ?_⟩) hHeld ?_
      rotate_left
      · intro w' hSw; (try dsimp only at hSw); skip; go_simp; try with_reducible rfl
      simp only [Act.put, List.setIfInBounds_toArray, List.set_cons_zero, List.set_cons_succ]
      refine rgTake (i := 5) (N := some 6) (oi := { dst := some 6, op := Op.assign (Operand.tmp 10), type := 9, pos := "law.go:53", after := #[{ on := 3, ground := Ground.data }, { on := 4, ground := Ground.chain }, { on := 0, ground := Ground.phase }, { on := 1, ground := Ground.phase }, { on := 2, ground := Ground.phase }, { on := 3, ground := Ground.phase }, { on := 4, ground := Ground.phase }], guard := none }) (v := ?_) #[true, true, true, true, true, true] rfl rfl (by kernel_rfl) (fun _ _ _ h => h) (Or.inl ⟨by rfl, ?_⟩) hHeld ?_
      rotate_left
      · intro w' hSw; (try dsimp only at hSw); skip; go_simp; try with_reducible rfl
      simp only [Act.put, List.setIfInBounds_toArray, List.set_cons_zero, List.set_cons_succ]
      refine rgDone (by kernel_rfl) ?_ _
      go_wp2_with (first | (refine rowLoad (by rfl) 27 _ rfl gI rfl (cs := insQ op q) HI.out Tryd.underlying27 rfl infoIn ?_) | (refine rowLoad (by rfl) 27 _ rfl gJ rfl (cs := insQ op q) HJ.out Tryd.underlying27 rfl infoIn ?_) | (go_at_call 8; refine (awake_any m _ (St.below HS HB)).mono ?_; rintro e wz ⟨rfl, hb⟩; replace HB := keepB HB hb; clear hb))
      go_ret
      exact ⟨rfl, HB.out.1⟩
  · have t2 := neqIn_ne op op2 q q2 hsame
    by_cases he : P = P2
    · have hn : P = [] := by
        by_cases h : P = []
        · exact h
        · exact absurd (print_inj (by rw [hP, hP2, he]) (by rw [hP]; exact h)) hsame
      subst he
      have q3 : ((bs P).toList == []) = true := by rw [toL, hn]; rfl
      clear hP hP2 hq hq2 hn hsame
      go_enter Tryd.func6, Tryd.ntmps6
      go_upto_region 1 with (first | (refine wlBox (by rfl) 27 _ rfl (insQ op2 q2) rfl ?_; intro gJ w2 hg hl ha hb; have HGJ : Hid (w.heap.size ≤ gJ) := Lib.hid (Nat.le_trans HB.out.2 hg); replace HB := keepB HB hb; replace HI := keepA HI hb; have HJ := Lib.hid ha; clear ha hb hg hl) | (refine wlBox (by rfl) 27 _ rfl (insQ op q) rfl ?_; intro gI w1 hg hl ha hb; have HGI : Hid (w.heap.size ≤ gI) := Lib.hid (Nat.le_trans HB.out.2 hg); replace HB := keepB HB hb; have HI := Lib.hid ha; have tok := hl; clear ha hb hg hl))
      replace HI := keepA1 HI
      replace HJ := keepA1 HJ
      replace HB := keepB1 HB
      refine rgStart (S := (fun w' => w'.heap[gI]? = some (.cells (insQ op q) 27 (0, 0)) ∧ w'.heap[gJ]? = some (.cells (insQ op2 q2) 27 (0, 0)))) (n := 6) #[false, false, false, false, false, false] (by kernel_rfl) rfl rfl ⟨HI.out, HJ.out⟩ (fun hHeld => ?_)
      refine rgTake (i := 0) (N := some 7) (oi := { dst := some 7, op := Op.load 27 (Operand.tmp 2), type := 27, pos := "law.go:53", after := #[], guard := none }) (v := _) #[true, false, false, false, false, false] rfl rfl (by kernel_rfl) (fun _ _ _ h => h) (yieldsRow (by rfl) _ _ rfl gI rfl (fun _ h => h.1) Tryd.underlying27 rfl infoIn) hHeld ?_
      simp only [Act.put, List.setIfInBounds_toArray, List.set_cons_zero, List.set_cons_succ]
      refine rgTake (i := 2) (N := some 9) (oi := { dst := some 9, op := Op.load 27 (Operand.tmp 3), type := 27, pos := "law.go:53", after := #[], guard := none }) (v := _) #[true, false, true, false, false, false] rfl rfl (by kernel_rfl) (fun _ _ _ h => h) (yieldsRow (by rfl) _ _ rfl gJ rfl (fun _ h => h.2) Tryd.underlying27 rfl infoIn) hHeld ?_
      simp only [Act.put, List.setIfInBounds_toArray, List.set_cons_zero, List.set_cons_succ]
      refine rgCall (i := 1) (N := some 8) (oi := { dst := some 8, op := Op.call { callee := Callee.value (Operand.func 13), args := #[Operand.tmp 7], argTypes := #[27] }, type := 9, pos := "law.go:53", after := #[{ on := 0, ground := Ground.data }], guard := none }) #[true, true, true, false, false, false] rfl rfl (by kernel_rfl) (fun K hK => ?_)
      go_simp
      (go_at_call 13; refine (HP.out _ (St.below HS HB) _ _ _ (by assumption)).mono ?_; rintro e w5 ⟨rfl, hb⟩; replace HI := keepA HI hb; replace HJ := keepA HJ hb; replace HB := keepB HB hb; clear hb)
      refine hK.out _ _ ⟨HI.out, HJ.out⟩ (fun hHeld => ?_)
      (try simp only [Act.put, List.setIfInBounds_toArray, List.set_cons_zero, List.set_cons_succ])
      clear hK K
      refine rgCall (i := 3) (N := some 10) (oi := { dst := some 10, op := Op.call { callee := Callee.value (Operand.func 13), args := #[Operand.tmp 9], argTypes := #[27] }, type := 9, pos := "law.go:53", after := #[{ on := 2, ground := Ground.data }, { on := 1, ground := Ground.chain }], guard := none }) #[true, true, true, true, false, false] rfl rfl (by kernel_rfl) (fun K hK => ?_)
      go_simp
      (go_at_call 13; refine (HP.out _ (St.below HS HB) _ _ _ (by assumption)).mono ?_; rintro e w5 ⟨rfl, hb⟩; replace HI := keepA HI hb; replace HJ := keepA HJ hb; replace HB := keepB HB hb; clear hb)
      refine hK.out _ _ ⟨HI.out, HJ.out⟩ (fun hHeld => ?_)
      (try simp only [Act.put, List.setIfInBounds_toArray, List.set_cons_zero, List.set_cons_succ])
      clear hK K
      refine rgTake (i := 4) (N := some 5) (oi := { dst := some 5, op := Op.assign (Operand.tmp 8), type := 9, pos := "law.go:53", after := #[{ on := 1, ground := Ground.data }, { on := 3, ground := Ground.chain }, { on := 0, ground := Ground.phase }, { on := 1, ground := Ground.phase }, { on := 2, ground := Ground.textOnly Departure.lateStores }, { on := 3, ground := Ground.textOnly Departure.lateStoresUnsure }], guard := none }) (v := ?_) #[true, true, true, true, true, false] rfl rfl (by kernel_rfl) (fun _ _ _ h => h) (Or.inl ⟨by rfl, ?_⟩) hHeld ?_
      rotate_left
      · intro w' hSw; (try dsimp only at hSw); skip; go_simp; try with_reducible rfl
      simp only [Act.put, List.setIfInBounds_toArray, List.set_cons_zero, List.set_cons_succ]
      refine rgTake (i := 5) (N := some 6) (oi := { dst := some 6, op := Op.assign (Operand.tmp 10), type := 9, pos := "law.go:53", after := #[{ on := 3, ground := Ground.data }, { on := 4, ground := Ground.chain }, { on := 0, ground := Ground.phase }, { on := 1, ground := Ground.phase }, { on := 2, ground := Ground.phase }, { on := 3, ground := Ground.phase }, { on := 4, ground := Ground.phase }], guard := none }) (v := ?_) #[true, true, true, true, true, true] rfl rfl (by kernel_rfl) (fun _ _ _ h => h) (Or.inl ⟨by rfl, ?_⟩) hHeld ?_
      rotate_left
      · intro w' hSw; (try dsimp only at hSw); skip; go_simp; try with_reducible rfl
      simp only [Act.put, List.setIfInBounds_toArray, List.set_cons_zero, List.set_cons_succ]
      refine rgDone (by kernel_rfl) ?_ _
      go_wp2_with (first | (refine rowLoad (by rfl) 27 _ rfl gI rfl (cs := insQ op q) HI.out Tryd.underlying27 rfl infoIn ?_) | (refine rowLoad (by rfl) 27 _ rfl gJ rfl (cs := insQ op2 q2) HJ.out Tryd.underlying27 rfl infoIn ?_) | (go_at_call 8; refine (awake_any m _ (St.below HS HB)).mono ?_; rintro e wz ⟨rfl, hb⟩; replace HB := keepB HB hb; clear hb))
      go_ret
      exact ⟨rfl, HB.out.1⟩
    · have q3 : ((bs P).toList == (bs P2).toList) = false := toL_ne he
      clear hP hP2 hq hq2 he hsame
      go_enter Tryd.func6, Tryd.ntmps6
      go_upto_region 1 with (first | (refine wlBox (by rfl) 27 _ rfl (insQ op2 q2) rfl ?_; intro gJ w2 hg hl ha hb; have HGJ : Hid (w.heap.size ≤ gJ) := Lib.hid (Nat.le_trans HB.out.2 hg); replace HB := keepB HB hb; replace HI := keepA HI hb; have HJ := Lib.hid ha; clear ha hb hg hl) | (refine wlBox (by rfl) 27 _ rfl (insQ op q) rfl ?_; intro gI w1 hg hl ha hb; have HGI : Hid (w.heap.size ≤ gI) := Lib.hid (Nat.le_trans HB.out.2 hg); replace HB := keepB HB hb; have HI := Lib.hid ha; have tok := hl; clear ha hb hg hl))
      replace HI := keepA1 HI
      replace HJ := keepA1 HJ
      replace HB := keepB1 HB
      refine rgStart (S := (fun w' => w'.heap[gI]? = some (.cells (insQ op q) 27 (0, 0)) ∧ w'.heap[gJ]? = some (.cells (insQ op2 q2) 27 (0, 0)))) (n := 6) #[false, false, false, false, false, false] (by kernel_rfl) rfl rfl ⟨HI.out, HJ.out⟩ (fun hHeld => ?_)
      refine rgTake (i := 0) (N := some 7) (oi := { dst := some 7, op := Op.load 27 (Operand.tmp 2), type := 27, pos := "law.go:53", after := #[], guard := none }) (v := _) #[true, false, false, false, false, false] rfl rfl (by kernel_rfl) (fun _ _ _ h => h) (yieldsRow (by rfl) _ _ rfl gI rfl (fun _ h => h.1) Tryd.underlying27 rfl infoIn) hHeld ?_
      simp only [Act.put, List.setIfInBounds_toArray, List.set_cons_zero, List.set_cons_succ]
      refine rgTake (i := 2) (N := some 9) (oi := { dst := some 9, op := Op.load 27 (Operand.tmp 3), type := 27, pos := "law.go:53", after := #[], guard := none }) (v := _) #[true, false, true, false, false, false] rfl rfl (by kernel_rfl) (fun _ _ _ h => h) (yieldsRow (by rfl) _ _ rfl gJ rfl (fun _ h => h.2) Tryd.underlying27 rfl infoIn) hHeld ?_
      simp only [Act.put, List.setIfInBounds_toArray, List.set_cons_zero, List.set_cons_succ]
      refine rgCall (i := 1) (N := some 8) (oi := { dst := some 8, op := Op.call { callee := Callee.value (Operand.func 13), args := #[Operand.tmp 7], argTypes := #[27] }, type := 9, pos := "law.go:53", after := #[{ on := 0, ground := Ground.data }], guard := none }) #[true, true, true, false, false, false] rfl rfl (by kernel_rfl) (fun K hK => ?_)
      go_simp
      (go_at_call 13; refine (HP.out _ (St.below HS HB) _ _ _ (by assumption)).mono ?_; rintro e w5 ⟨rfl, hb⟩; replace HI := keepA HI hb; replace HJ := keepA HJ hb; replace HB := keepB HB hb; clear hb)
      refine hK.out _ _ ⟨HI.out, HJ.out⟩ (fun hHeld => ?_)
      (try simp only [Act.put, List.setIfInBounds_toArray, List.set_cons_zero, List.set_cons_succ])
      clear hK K
      refine rgCall (i := 3) (N := some 10) (oi := { dst := some 10, op := Op.call { callee := Callee.value (Operand.func 13), args := #[Operand.tmp 9], argTypes := #[27] }, type := 9, pos := "law.go:53", after := #[{ on := 2, ground := Ground.data }, { on := 1, ground := Ground.chain }], guard := none }) #[true, true, true, true, false, false] rfl rfl (by kernel_rfl) (fun K hK => ?_)
      go_simp
      (go_at_call 13; refine (HP.out _ (St.below HS HB) _ _ _ (by assumption)).mono ?_; rintro e w5 ⟨rfl, hb⟩; replace HI := keepA HI hb; replace HJ := keepA HJ hb; replace HB := keepB HB hb; clear hb)
      refine hK.out _ _ ⟨HI.out, HJ.out⟩ (fun hHeld => ?_)
      (try simp only [Act.put, List.setIfInBounds_toArray, List.set_cons_zero, List.set_cons_succ])
      clear hK K
      refine rgTake (i := 4) (N := some 5) (oi := { dst := some 5, op := Op.assign (Operand.tmp 8), type := 9, pos := "law.go:53", after := #[{ on := 1, ground := Ground.data }, { on := 3, ground := Ground.chain }, { on := 0, ground := Ground.phase }, { on := 1, ground := Ground.phase }, { on := 2, ground := Ground.textOnly Departure.lateStores }, { on := 3, ground := Ground.textOnly Departure.lateStoresUnsure }], guard := none }) (v := ?_) #[true, true, true, true, true, false] rfl rfl (by kernel_rfl) (fun _ _ _ h => h) (Or.inl ⟨by rfl, ?_⟩) hHeld ?_
      rotate_left
      · intro w' hSw; (try dsimp only at hSw); skip; go_simp; try with_reducible rfl
      simp only [Act.put, List.setIfInBounds_toArray, List.set_cons_zero, List.set_cons_succ]
      refine rgTake (i := 5) (N := some 6) (oi := { dst := some 6, op := Op.assign (Operand.tmp 10), type := 9, pos := "law.go:53", after := #[{ on := 3, ground := Ground.data }, { on := 4, ground := Ground.chain }, { on := 0, ground := Ground.phase }, { on := 1, ground := Ground.phase }, { on := 2, ground := Ground.phase }, { on := 3, ground := Ground.phase }, { on := 4, ground := Ground.phase }], guard := none }) (v := ?_) #[true, true, true, true, true, true] rfl rfl (by kernel_rfl) (fun _ _ _ h => h) (Or.inl ⟨by rfl, ?_⟩) hHeld ?_
      rotate_left
      · intro w' hSw; (try dsimp only at hSw); skip; go_simp; try with_reducible rfl
      simp only [Act.put, List.setIfInBounds_toArray, List.set_cons_zero, List.set_cons_succ]
      refine rgDone (by kernel_rfl) ?_ _
      go_wp2_with (first | (refine rowLoad (by rfl) 27 _ rfl gI rfl (cs := insQ op q) HI.out Tryd.underlying27 rfl infoIn ?_) | (refine rowLoad (by rfl) 27 _ rfl gJ rfl (cs := insQ op2 q2) HJ.out Tryd.underlying27 rfl infoIn ?_) | (go_at_call 8; refine (awake_any m _ (St.below HS HB)).mono ?_; rintro e wz ⟨rfl, hb⟩; replace HB := keepB HB hb; clear hb))
      go_ret
      exact ⟨rfl, HB.out.1⟩
end Go.Proofs.YtnlghbnehfgobaaDoor.My
