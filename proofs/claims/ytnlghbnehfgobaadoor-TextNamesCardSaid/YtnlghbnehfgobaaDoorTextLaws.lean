/- The laws of texts, walked. -/
import Derived.Test.YtnlghbnehfgobaaDoorTextAwake
import Derived.Test.YtnlghbnehfgobaaDoorHeldWords
set_option linter.unusedVariables false
set_option linter.unusedSimpArgs false
namespace Go.Proofs.YtnlghbnehfgobaaDoor.My
open Go.RowKit
theorem eqS (l : List UInt8) : ((bs l).toList == (bs l).toList) = true := beq_iff_eq.2 rfl
theorem rright_st (op : Int) (q : Q4) (w : World) : Calls Tryd.prog 15 #[.agg (insQ op q)] w fun e w' => e = .returned (.int .i64 (rightQ op q : Nat)) ∧ Below w.heap.size w w' := rright_any op q.rd q.ra q.rb q.im w
set_option maxRecDepth 100000 in
set_option maxHeartbeats 4000000 in
theorem tnames_any (op : Int) (nm : List UInt8) (m : Int) (w : World) (hS : St m w) (hl : nm.length ≤ maxLen) : Calls Tryd.prog 3 #[.int .i64 op, .string (bs nm)] w fun e w' => e = .returned (.bool true) ∧ Below w.heap.size w w' := by
  have HB := startB w
  have HS := Lib.hid hS
  unfold maxLen at hl
  have hz : (bs nm).size ≤ 9223372036854775807 := by rw [bs_size]; omega
  clear hS hl
  by_cases h2 : 200 < (bs nm).size
  · go_enter Tryd.func3, Tryd.ntmps3
    go_wp2_with (go_at_call 8; refine (awake_any m _ (St.below HS HB)).mono ?_; rintro e wz ⟨rfl, hb⟩; replace HB := keepB HB hb; clear hb)
    go_ret
    exact ⟨rfl, HB.out.1⟩
  obtain ⟨R, hR⟩ : ∃ R, opV nm = R := ⟨_, rfl⟩
  have HR := Lib.hid hR
  have H1 : Hid (∀ w', St m w' → Calls Tryd.prog 11 #[.string (bs nm)] w' fun e w'' => e = .returned (.int .i64 (R : Nat)) ∧ Below w'.heap.size w' w'') := Lib.hid (fun w' h => by have := op_any nm w' h.2.2; rwa [hR] at this)
  have H3 : Hid (∀ w', St m w' → Calls Tryd.prog 11 #[.string ⟨#[]⟩] w' fun e w'' => e = .returned (.int .i64 0) ∧ Below w'.heap.size w' w'') := Lib.hid (fun w' h => by have := op_any [] w' h.2.2; rw [op_none] at this; exact this)
  obtain ⟨NL, hNL⟩ : ∃ NL, nameV op = NL := ⟨_, rfl⟩
  have HNL := Lib.hid hNL
  have q1 := eqS NL
  by_cases hn : NL = []
  · have q2 : ((bs NL).toList == []) = true := by rw [toL, hn]; rfl
    clear hR hNL hn
    go_enter Tryd.func3, Tryd.ntmps3
    go_upto_region 4 with (go_at_call 9; refine (name_any op _ (St.below HS HB).2.2).mono ?_; rw [HNL.out]; rintro e w1 ⟨rfl, hb⟩; replace HB := keepB HB hb; clear hb)
    go_wp2_with (first | (go_at_call 10; refine (rname_any op _).mono ?_; rw [HNL.out]; rintro e w2 ⟨rfl, hb⟩; replace HB := keepB HB hb; clear hb) | (go_at_call 11; refine (H1.out _ (St.below HS HB)).mono ?_; clear H1; rintro e w3 ⟨rfl, hb⟩; replace HB := keepB HB hb; clear hb) | (go_at_call 12; refine (rop_any nm _).mono ?_; rw [HR.out]; rintro e w4 ⟨rfl, hb⟩; replace HB := keepB HB hb; clear hb) | (go_at_call 11; refine (H3.out _ (St.below HS HB)).mono ?_; clear H3; rintro e w6 ⟨rfl, hb⟩; replace HB := keepB HB hb; clear hb) | (go_at_call 8; refine (awake_any m _ (St.below HS HB)).mono ?_; rintro e wz ⟨rfl, hb⟩; replace HB := keepB HB hb; clear hb))
    go_ret
    exact ⟨rfl, HB.out.1⟩
  · have q2 : ((bs NL).toList == []) = false := by rw [toL]; exact beq_eq_false_iff_ne.2 hn
    have hr : 1 ≤ op ∧ op ≤ 63 := by
      by_cases q : op < 1 ∨ 63 < op
      · exact absurd (by rw [← hNL]; unfold nameV; rw [if_pos q]) hn
      · omega
    have ho := (name_op hr.1 hr.2).1
    rw [hNL] at ho
    have H2 : Hid (∀ w', St m w' → Calls Tryd.prog 11 #[.string (bs NL)] w' fun e w'' => e = .returned (.int .i64 op) ∧ Below w'.heap.size w' w'') := Lib.hid (fun w' h => by have := op_any NL w' h.2.2; rwa [ho] at this)
    clear hR hNL hn hr ho
    go_enter Tryd.func3, Tryd.ntmps3
    go_upto_region 4 with (go_at_call 9; refine (name_any op _ (St.below HS HB).2.2).mono ?_; rw [HNL.out]; rintro e w1 ⟨rfl, hb⟩; replace HB := keepB HB hb; clear hb)
    go_wp2_with (first | (go_at_call 10; refine (rname_any op _).mono ?_; rw [HNL.out]; rintro e w2 ⟨rfl, hb⟩; replace HB := keepB HB hb; clear hb) | (go_at_call 11; refine (H1.out _ (St.below HS HB)).mono ?_; clear H1; rintro e w3 ⟨rfl, hb⟩; replace HB := keepB HB hb; clear hb) | (go_at_call 12; refine (rop_any nm _).mono ?_; rw [HR.out]; rintro e w4 ⟨rfl, hb⟩; replace HB := keepB HB hb; clear hb) | (go_at_call 11; refine (H2.out _ (St.below HS HB)).mono ?_; clear H2; rintro e w5 ⟨rfl, hb⟩; replace HB := keepB HB hb; clear hb) | (go_at_call 11; refine (H3.out _ (St.below HS HB)).mono ?_; clear H3; rintro e w6 ⟨rfl, hb⟩; replace HB := keepB HB hb; clear hb) | (go_at_call 8; refine (awake_any m _ (St.below HS HB)).mono ?_; rintro e wz ⟨rfl, hb⟩; replace HB := keepB HB hb; clear hb))
    go_ret
    exact ⟨rfl, HB.out.1⟩
set_option maxRecDepth 100000 in
set_option maxHeartbeats 4000000 in
theorem tcauses_any (n k : Int) (m : Int) (w : World) (hS : St m w) : Calls Tryd.prog 7 #[.int .i64 n, .int .i64 k] w fun e w' => e = .returned (.bool true) ∧ Below w.heap.size w w' := by
  have HB := startB w
  have HS := Lib.hid hS
  clear hS
  obtain ⟨N, hN⟩ : ∃ N, causeV n = N := ⟨_, rfl⟩
  obtain ⟨K, hK⟩ : ∃ N, causeV k = N := ⟨_, rfl⟩
  have H1 : Hid (∀ w', Calls Tryd.prog 18 #[.int .i64 n] w' fun e w'' => e = .returned (.string (bs N)) ∧ Below w'.heap.size w' w'') := Lib.hid (fun w' => by have := cause_any n w'; rwa [hN] at this)
  have H2 : Hid (∀ w', Calls Tryd.prog 18 #[.int .i64 k] w' fun e w'' => e = .returned (.string (bs K)) ∧ Below w'.heap.size w' w'') := Lib.hid (fun w' => by have := cause_any k w'; rwa [hK] at this)
  have HR : Hid (∀ w', Calls Tryd.prog 19 #[.int .i64 n] w' fun e w'' => e = .returned (.string (bs N)) ∧ Below w'.heap.size w' w'') := Lib.hid (fun w' => by have := rcause_any n w'; rwa [hN] at this)
  have q1 := eqS N
  by_cases hn : N = []
  · have q2 : ((bs N).toList == []) = true := by rw [toL, hn]; rfl
    clear hN hK hn
    go_enter Tryd.func7, Tryd.ntmps7
    go_wp2_with (first | (go_at_call 18; refine (H1.out _).mono ?_; clear H1; rintro e w1 ⟨rfl, hb⟩; replace HB := keepB HB hb; clear hb) | (go_at_call 19; refine (HR.out _).mono ?_; clear HR; rintro e w2 ⟨rfl, hb⟩; replace HB := keepB HB hb; clear hb) | (go_at_call 8; refine (awake_any m _ (St.below HS HB)).mono ?_; rintro e wz ⟨rfl, hb⟩; replace HB := keepB HB hb; clear hb))
    go_ret
    exact ⟨rfl, HB.out.1⟩
  have q2 : ((bs N).toList == []) = false := by rw [toL]; exact beq_eq_false_iff_ne.2 hn
  by_cases hk : n = k
  · have q3 : (n == k) = true := beq_iff_eq.2 hk
    clear hN hK hn hk
    go_enter Tryd.func7, Tryd.ntmps7
    go_wp2_with (first | (go_at_call 18; refine (H1.out _).mono ?_; clear H1; rintro e w1 ⟨rfl, hb⟩; replace HB := keepB HB hb; clear hb) | (go_at_call 19; refine (HR.out _).mono ?_; clear HR; rintro e w2 ⟨rfl, hb⟩; replace HB := keepB HB hb; clear hb) | (go_at_call 8; refine (awake_any m _ (St.below HS HB)).mono ?_; rintro e wz ⟨rfl, hb⟩; replace HB := keepB HB hb; clear hb))
    go_ret
    exact ⟨rfl, HB.out.1⟩
  · have q3 : (n == k) = false := beq_eq_false_iff_ne.2 hk
    have q4 : ((bs K).toList == (bs N).toList) = false := toL_ne (fun e => hk (cause_inj (by rw [hN, hK, e]) (by rw [hN]; exact hn)))
    clear hN hK hn hk
    go_enter Tryd.func7, Tryd.ntmps7
    go_wp2_with (first | (go_at_call 18; refine (H1.out _).mono ?_; clear H1; rintro e w1 ⟨rfl, hb⟩; replace HB := keepB HB hb; clear hb) | (go_at_call 19; refine (HR.out _).mono ?_; clear HR; rintro e w2 ⟨rfl, hb⟩; replace HB := keepB HB hb; clear hb) | (go_at_call 18; refine (H2.out _).mono ?_; clear H2; rintro e w3 ⟨rfl, hb⟩; replace HB := keepB HB hb; clear hb) | (go_at_call 8; refine (awake_any m _ (St.below HS HB)).mono ?_; rintro e wz ⟨rfl, hb⟩; replace HB := keepB HB hb; clear hb))
    go_ret
    exact ⟨rfl, HB.out.1⟩
theorem print_le {op : Int} {q : Q4} (hq : q.ok) : (printQ op q).length ≤ 1000 := by
  unfold printQ printV
  split
  · exact Nat.zero_le _
  · have hn : (nameV op).length ≤ 10 := name_len op
    split
    · omega
    · rw [List.length_append, List.length_append]
      have hf := (fields_ok (formV op)).2
      have hj := joinP_len ((fieldsV (formV op)).map (partV q.rd q.ra q.rb q.im)) 30 (fun l hl => by
        obtain ⟨c, _, rfl⟩ := List.mem_map.1 hl
        exact part_len _ _ _ _ hq c)
      rw [List.length_map] at hj
      have hm := Nat.mul_le_mul_right (30 + 2) hf
      simp only [List.length_cons, List.length_nil]
      omega
set_option maxRecDepth 100000 in
set_option maxHeartbeats 4000000 in
theorem tprints_any (op : Int) (q : Q4) (hq : q.ok) (m : Int) (w : World) (hS : St m w) : Calls Tryd.prog 4 #[.agg (insQ op q)] w fun e w' => e = .returned (.bool true) ∧ Below w.heap.size w w' := by
  have HB := startB w
  have HS := Lib.hid hS
  clear hS
  obtain ⟨P, hP⟩ : ∃ N, printQ op q = N := ⟨_, rfl⟩
  have HP : Hid (∀ w', St m w' → Calls Tryd.prog 13 #[.agg (insQ op q)] w' fun e w'' => e = .returned (.string (bs P)) ∧ Below w'.heap.size w' w'') := Lib.hid (fun w' h => by have := print_st op q w' hq h; rwa [hP] at this)
  have HRP : Hid (∀ w', Calls Tryd.prog 14 #[.agg (insQ op q)] w' fun e w'' => e = .returned (.string (bs P)) ∧ Below w'.heap.size w' w'') := Lib.hid (fun w' => by have := rprintq_any op q w' hq; rwa [hP] at this)
  have q1 := eqS P
  obtain ⟨R, hR⟩ : ∃ N, rightQ op q = N := ⟨_, rfl⟩
  have HRR := Lib.hid hR
  by_cases h0 : R = 0
  · subst h0
    have hpl := print_le (op := op) hq
    rw [hP] at hpl
    have HPA : Hid (∀ w', St m w' → Calls Tryd.prog 16 #[.string (bs P)] w' fun e w'' => e = .returned (.tuple #[.agg (insQ op q), .int .i64 0]) ∧ Below w'.heap.size w' w'') := Lib.hid (fun w' h => by
      have := parse_st P w' (by omega) h
      have e := par_print hR
      rw [hP] at e
      rw [e] at this
      exact this)
    have q3 := eqlIn op q
    clear hP hR hpl
    go_enter Tryd.func4, Tryd.ntmps4
    go_upto_region 4 with (first | (refine wlBox (by rfl) 27 _ rfl (insQ op q) rfl ?_; intro gI w1 hg hl ha hb; have HGI : Hid (w.heap.size ≤ gI) := Lib.hid (Nat.le_trans HB.out.2 hg); replace HB := keepB HB hb; have HI := Lib.hid ha; clear ha hb hg hl) | (refine rowLoad (by rfl) 27 _ rfl gI rfl (cs := insQ op q) HI.out Tryd.underlying27 rfl infoIn ?_) | (go_at_call 13; refine (HP.out _ (St.below HS HB)).mono ?_; rintro e w2 ⟨rfl, hb⟩; replace HB := keepB HB hb; replace HI := keepA HI hb; clear hb) | (go_at_call 14; refine (HRP.out _).mono ?_; rintro e w3 ⟨rfl, hb⟩; replace HB := keepB HB hb; replace HI := keepA HI hb; clear hb))
    go_upto_region 6 with (first | (refine rowLoad (by rfl) 27 _ rfl gI rfl (cs := insQ op q) HI.out Tryd.underlying27 rfl infoIn ?_) | (go_at_call 15; refine (rright_st op q _).mono ?_; rw [HRR.out]; rintro e w4 ⟨rfl, hb⟩; replace HB := keepB HB hb; replace HI := keepA HI hb; clear hb))
    go_upto_region 7 with (first | (go_at_call 16; refine (HPA.out _ (St.below HS HB)).mono ?_; rintro e w5 ⟨rfl, hb⟩; replace HB := keepB HB hb; replace HI := keepA HI hb; clear hb) | (refine wlAlloc (by rfl) 27 rfl (insA 0 0 0 0 0) zeroIn ?_; intro gJ w6 hg hl ha hb; have HGJ : Hid (w.heap.size ≤ gJ) := Lib.hid (Nat.le_trans HB.out.2 hg); have HNJ : Hid (gI ≠ gJ) := Lib.hid (Nat.ne_of_lt (Nat.lt_of_lt_of_le (Array.getElem?_eq_some_iff.1 HI.out).1 hg)); replace HB := keepB HB hb; replace HI := keepA HI hb; have HJ := Lib.hid ha; clear ha hb hg hl) | (refine rowStore (by rfl) 27 _ _ rfl gJ rfl (insQ op q) rfl HJ.out infoIn rfl (insQ_one _ _) ?_; intro w7 ha ho; replace HJ := Lib.hid ha; replace HI := keepAo HI HNJ.out ho; replace HB := keepBo HB HGJ.out ho; clear ha ho))
    go_wp2_with (first | (refine rowLoad (by rfl) 27 _ rfl gI rfl (cs := insQ op q) HI.out Tryd.underlying27 rfl infoIn ?_) | (refine rowLoad (by rfl) 27 _ rfl gJ rfl (cs := insQ op q) HJ.out Tryd.underlying27 rfl infoIn ?_) | (go_at_call 8; refine (awake_any m _ (St.below HS HB)).mono ?_; rintro e wz ⟨rfl, hb⟩; replace HB := keepB HB hb; clear hb))
    go_ret
    exact ⟨rfl, HB.out.1⟩
  · have hp0 : P = [] := by rw [← hP]; exact print_wrong (by rw [hR]; exact h0)
    have q2 : ((bs P).toList == []) = true := by rw [toL, hp0]; rfl
    have q4 : ((R : Int) != 0) = true := bne_iff_ne.2 (by omega)
    clear hP hR hp0 h0
    go_enter Tryd.func4, Tryd.ntmps4
    go_upto_region 4 with (first | (refine wlBox (by rfl) 27 _ rfl (insQ op q) rfl ?_; intro gI w1 hg hl ha hb; have HGI : Hid (w.heap.size ≤ gI) := Lib.hid (Nat.le_trans HB.out.2 hg); replace HB := keepB HB hb; have HI := Lib.hid ha; clear ha hb hg hl) | (refine rowLoad (by rfl) 27 _ rfl gI rfl (cs := insQ op q) HI.out Tryd.underlying27 rfl infoIn ?_) | (go_at_call 13; refine (HP.out _ (St.below HS HB)).mono ?_; rintro e w2 ⟨rfl, hb⟩; replace HB := keepB HB hb; replace HI := keepA HI hb; clear hb) | (go_at_call 14; refine (HRP.out _).mono ?_; rintro e w3 ⟨rfl, hb⟩; replace HB := keepB HB hb; replace HI := keepA HI hb; clear hb))
    go_wp2_with (first | (refine rowLoad (by rfl) 27 _ rfl gI rfl (cs := insQ op q) HI.out Tryd.underlying27 rfl infoIn ?_) | (go_at_call 15; refine (rright_st op q _).mono ?_; rw [HRR.out]; rintro e w4 ⟨rfl, hb⟩; replace HB := keepB HB hb; replace HI := keepA HI hb; clear hb) | (go_at_call 8; refine (awake_any m _ (St.below HS HB)).mono ?_; rintro e wz ⟨rfl, hb⟩; replace HB := keepB HB hb; clear hb))
    go_ret
    exact ⟨rfl, HB.out.1⟩
end Go.Proofs.YtnlghbnehfgobaaDoor.My
