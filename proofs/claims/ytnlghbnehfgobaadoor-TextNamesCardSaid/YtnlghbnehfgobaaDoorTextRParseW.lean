/- Walk: the instruction that a text is: the reference's. -/
import Derived.Test.YtnlghbnehfgobaaDoorTextRParseA
import Derived.Test.YtnlghbnehfgobaaDoorTextParseW
import Derived.Test.YtnlghbnehfgobaaDoorTextRPrintW
import Derived.Test.YtnlghbnehfgobaaDoorTextParsePlain2
set_option linter.unusedVariables false
set_option linter.unusedSimpArgs false
namespace Go.Proofs.YtnlghbnehfgobaaDoor.My
open Go.RowKit
theorem rnumber1_any (s : List UInt8) (p : Nat) (w : World) (hs : s.length ≤ 1000000) (hp : p ≤ s.length) : Calls Tryd.prog 41 #[.string (bs s), .int .i64 ((p : Int) + 1)] w fun e w' => e = .returned (.int .i64 (numS ((s.drop p).drop 1))) ∧ w = w' := by
  have := rnumber_any s (p + 1) w hs (by omega)
  rw [List.drop_drop]
  exact this
theorem digS_range : ∀ (b k : Nat) (l : List UInt8) (n : Int), b + k ≤ 9 → 0 ≤ n → n + 1 ≤ 10 ^ k → 0 ≤ digS b l n ∧ digS b l n ≤ 1000000000
  | 0, k, l, n, hb, h0, h1 => by
    rw [digS_zero]
    have := pow9 (show k ≤ 9 by omega)
    omega
  | b + 1, k, [], n, hb, h0, h1 => by
    rw [digS_nil]
    have := pow9 (show k ≤ 9 by omega)
    omega
  | b + 1, k, c :: r, n, hb, h0, h1 => by
    rw [digS]
    split
    · exact digS_range b (k + 1) r _ (by omega) (by omega) (by rw [Int.pow_succ]; omega)
    · have := pow9 (show k ≤ 9 by omega)
      omega
theorem num_range (l : List UInt8) : -9223372036854775808 ≤ numS l ∧ numS l ≤ 9223372036854775807 := by
  unfold numS
  split
  · have := digS_range 9 0 (l.drop 1) 0 (by decide) (by decide) (by decide); omega
  · have := digS_range 9 0 l 0 (by decide) (by decide) (by decide); omega
theorem rprintq_any (op : Int) (q : Q4) (w : World) (hq : q.ok) : Calls Tryd.prog 14 #[.agg (insQ op q)] w fun e w' => e = .returned (.string (bs (printQ op q))) ∧ Below w.heap.size w w' :=
  rprint_any op q.rd q.ra q.rb q.im w hq (part_len _ _ _ _ hq)
theorem goR_nil (fl : List UInt8) (q : Q4) : goR fl [] q = q := by cases fl <;> rfl
theorem goR_step {c : UInt8} {fl t : List UInt8} {ts : List (List UInt8)} {q R : Q4} {n : Int} (h : goR (c :: fl) (t :: ts) q = R) (hp : numS (bareR c t) = n) : goR fl ts (q.put (c.toNat : Int) n) = R := by
  rw [goR, hp] at h
  exact h
set_option maxRecDepth 100000 in
set_option maxHeartbeats 4000000 in
theorem rparse_none (s : List UInt8) (w : World) (hs : s.length ≤ 1000000) (h0 : opV (headV s) = 0) :
    Calls Tryd.prog 17 #[.string (bs s)] w fun e w' => e = .returned (.tuple #[.agg (insA 0 0 0 0 0), .int .i64 9]) ∧ Below w.heap.size w w' := by
  have HB := startB w
  obtain ⟨NM, hN⟩ : ∃ x, headV s = x := ⟨_, rfl⟩
  have HN := Lib.hid hN
  rw [hN] at h0
  have HOP : Hid (((opV NM : Nat) : Int) = 0) := Lib.hid (by omega)
  clear hN h0
  go_enter Tryd.func17, Tryd.ntmps17
  go_upto_region 1 with (refine wlAlloc (by rfl) 27 rfl (insA 0 0 0 0 0) zeroIn ?_; intro gR w1 hg hl ha hb; have HGR : Hid (w.heap.size ≤ gR) := Lib.hid hg; replace HB := keepB HB hb; have HR := Lib.hid ha; clear ha hb hg hl)
  go_upto_region 2 with (first | (go_at_call 39; refine (rhead_any s _ hs).mono ?_; rw [HN.out]; rintro e w2 ⟨rfl, rfl⟩) | (go_at_call 12; refine (rop_any NM _).mono ?_; rw [HOP.out]; rintro e w3 ⟨rfl, hb⟩; replace HB := keepB HB hb; replace HR := keepA HR hb; clear hb) | (refine wlBuild rfl 27 #[(0, _)] rfl (.agg (insA 0 0 0 0 0)) (by kernel_rfl) ?_) | (refine wlAlloc (by rfl) 27 rfl (insA 0 0 0 0 0) zeroIn ?_; intro gI w4 hg hl ha hb; have HGI : Hid (w.heap.size ≤ gI) := Lib.hid (Nat.le_trans HB.out.2 hg); replace HB := keepB HB hb; have HRI : Hid (gR ≠ gI) := Lib.hid (Nat.ne_of_lt (Nat.lt_of_lt_of_le (Array.getElem?_eq_some_iff.1 HR.out).1 hg)); replace HR := keepA HR hb; have HI := Lib.hid ha; clear ha hb hg hl) | (refine rowStore (by rfl) 27 _ _ rfl gI rfl (insA 0 0 0 0 0) rfl HI.out infoIn rfl (insA_one _ _ _ _ _) ?_; intro w5 ha ho; replace HI := Lib.hid ha; replace HR := keepAo HR HRI.out ho; replace HB := keepBo HB HGI.out ho; have i0 : w5.cell? ⟨gI, 0, none⟩ = some (.int .i64 0) := cellA HI 0; clear ha ho))
  go_wp2_with (first | (refine wlBuild rfl 27 #[] rfl (.agg (insA 0 0 0 0 0)) (by kernel_rfl) ?_) | (refine rowStore (by rfl) 27 _ _ rfl gR rfl (insA 0 0 0 0 0) rfl HR.out infoIn rfl (insA_one _ _ _ _ _) ?_; intro w8 ha ho; replace HR := Lib.hid ha; replace HB := keepBo HB HGR.out ho; clear ha ho))
  exact bodyPost_ret (res1c rfl _ _ gR 27 (insA 0 0 0 0 0) (0, 0) _ rfl HR.out Tryd.underlying27 rfl infoIn) rfl ⟨rfl, HB.out.1⟩
set_option maxRecDepth 100000 in
set_option maxHeartbeats 16000000 in
theorem rparse_some (s : List UInt8) (w : World) (hs : s.length ≤ 1000000) (h0 : ¬ opV (headV s) = 0) :
    Calls Tryd.prog 17 #[.string (bs s)] w fun e w' => e = .returned (.tuple #[.agg (insQ (parR s).op (parR s).q), .int .i64 (parR s).e]) ∧ Below w.heap.size w w' := by
  have HB := startB w
  obtain ⟨Z, hZ⟩ : ∃ x, parR s = x := ⟨_, rfl⟩
  rw [hZ]
  unfold parR at hZ
  rw [if_neg h0] at hZ
  obtain ⟨NM, hN⟩ : ∃ x, headV s = x := ⟨_, rfl⟩
  have HN := Lib.hid hN
  rw [hN] at h0 hZ
  obtain ⟨OP, hOP⟩ : ∃ x : Int, ((opV NM : Nat) : Int) = x := ⟨_, rfl⟩
  have q1 : (OP == 0) = false := beq_eq_false_iff_ne.2 (by omega)
  have HOP := Lib.hid hOP
  rw [hOP] at hZ
  obtain ⟨fl, hfl⟩ : ∃ fl, fieldsV (formV OP) = fl := ⟨_, rfl⟩
  have hok := fields_ok (formV OP)
  rw [hfl] at hok hZ
  obtain ⟨hok1, hok2⟩ := hok
  have HFL := Lib.hid hfl
  have HOK := Lib.hid hok1
  obtain ⟨FL, hF⟩ : ∃ S, bs fl = S := ⟨_, rfl⟩
  have hFz : FL.size = fl.length := by rw [← hF, bs_size]
  have ebF : ∀ i (h : i < FL.size), (FL[i]'h).toNat = bAt FL i := fun i h => bAt_eq h
  have hFm : FL.size ≤ 3 := by omega
  have HFZ := Lib.hid hFz
  have HSF := Lib.hid hF
  have hpr := pos_range s 0
  have hpl := pos_len s 0
  have hps := pos_suf s s 0 rfl
  obtain ⟨PS, hP⟩ : ∃ x, posR s 0 = x := ⟨_, rfl⟩
  rw [hP] at hpr hpl hps
  rw [hps] at hZ
  have HPS := Lib.hid hP
  have HPR := Lib.hid hpr
  have hPl : PS.length ≤ 1000000 := by omega
  obtain ⟨R, hR⟩ : ∃ x, goR fl (PS.map (fun p => s.drop p.toNat)) q0 = x := ⟨_, rfl⟩
  rw [hR] at hZ
  have HRR : Hid (goR (fl.drop 0) ((PS.map (fun p => s.drop p.toNat)).drop 0) q0 = R) := Lib.hid hR
  have HZ := Lib.hid hZ
  clear hZ hN h0 hOP hfl hok1 hF hFz hpr hpl hps hP hR
  go_enter Tryd.func17, Tryd.ntmps17
  go_upto_region 1 with (refine wlAlloc (by rfl) 27 rfl (insA 0 0 0 0 0) zeroIn ?_; intro gR w1 hg hl ha hb; have HGR : Hid (w.heap.size ≤ gR) := Lib.hid hg; replace HB := keepB HB hb; have HR := Lib.hid ha; clear ha hb hg hl)
  go_upto_region 2 with (first | (go_at_call 39; refine (rhead_any s _ hs).mono ?_; rw [HN.out]; rintro e w2 ⟨rfl, rfl⟩) | (go_at_call 12; refine (rop_any NM _).mono ?_; rw [HOP.out]; rintro e w3 ⟨rfl, hb⟩; replace HB := keepB HB hb; replace HR := keepA HR hb; clear hb) | (refine wlBuild rfl 27 #[(0, _)] rfl (.agg (insA OP 0 0 0 0)) (by kernel_rfl) ?_) | (refine wlAlloc (by rfl) 27 rfl (insA 0 0 0 0 0) zeroIn ?_; intro gI w4 hg hl ha hb; have HGI : Hid (w.heap.size ≤ gI) := Lib.hid (Nat.le_trans HB.out.2 hg); replace HB := keepB HB hb; have HRI : Hid (gR ≠ gI) := Lib.hid (Nat.ne_of_lt (Nat.lt_of_lt_of_le (Array.getElem?_eq_some_iff.1 HR.out).1 hg)); replace HR := keepA HR hb; have HI := Lib.hid ha; clear ha hb hg hl) | (refine rowStore (by rfl) 27 _ _ rfl gI rfl (insA OP 0 0 0 0) rfl HI.out infoIn rfl (insA_one _ _ _ _ _) ?_; intro w5 ha ho; replace HI := Lib.hid ha; replace HR := keepAo HR HRI.out ho; replace HB := keepBo HB HGI.out ho; have i0 : w5.cell? ⟨gI, 0, none⟩ = some (.int .i64 OP) := cellA HI 0; clear ha ho))
  go_upto_region 4 with fail
  go_wp2_with (first | (go_at_call 30; refine (rform_any OP _).mono ?_; rintro e w7 ⟨rfl, rfl⟩) | (go_at_call 29; refine (rfields_any (formV OP) _).mono ?_; rw [HFL.out, HSF.out]; rintro e w8 ⟨rfl, rfl⟩) | (go_at_call 40; refine (rstarts_any s _ hs).mono ?_; rw [HPS.out]; rintro e w6 ⟨⟨A, cA, rfl, hr, hf⟩, hb⟩; have HRA := Lib.hid hr; have HNA : Hid (∀ a, A = some a → 0 < PS.length → a.block ≠ gI) := Lib.hid (fun a ha _ => Nat.ne_of_gt (Nat.lt_of_lt_of_le (Array.getElem?_eq_some_iff.1 HI.out).1 (hf a ha))); replace HB := keepB HB hb; replace HR := keepA HR hb; replace HI := keepA HI hb; clear hr hf hb))
  clear i0
  go_loopw [7] (fun i wr => ∃ (k : Nat) (q : Q4), k ≤ FL.size ∧ i = .int .i64 k ∧ q.ok ∧ Hid (goR (fl.drop k) ((PS.map (fun p => s.drop p.toNat)).drop k) q = R) ∧ Hid (RdA .i64 wr A PS.length PS) ∧ Hid (wr.heap[gI]? = some (.cells (insQ OP q) 27 (0, 0))) ∧ Hid (wr.heap[gR]? = some (.cells (insA 0 0 0 0 0) 27 (0, 0))) ∧ Hid (Below w.heap.size w wr ∧ w.heap.size ≤ wr.heap.size)) (fun i _ => FL.size - (intOf i).toNat)
  case atStart => exact ⟨0, q0, Nat.zero_le _, rfl, zero_ok, HRR, HRA, HI, HR, HB⟩
  case round =>
    clear HRR HRA HI HR HB
    obtain ⟨k, q, hk, rfl, hq, HG, HRA, HI, HR, HB⟩ := hrel
    by_cases hlt : k < FL.size
    · obtain ⟨x, hx⟩ : ∃ x, fl[k]? = some x := ⟨_, List.getElem?_eq_getElem (by rw [← HFZ.out]; exact hlt)⟩
      have hx4 := HOK.out x (List.mem_of_getElem? hx)
      have hc : bAt FL k = x.toNat := by rw [← HSF.out]; exact bAt_getP hx
      by_cases kn : k < PS.length
      · have hgo := HG.out
        obtain ⟨P, hP⟩ : ∃ x, PS[k]? = some x := ⟨_, List.getElem?_eq_getElem kn⟩
        have hpr := HPR.out P (List.mem_of_getElem? hP)
        obtain ⟨pn, hpn0⟩ : ∃ n : Nat, P = (n : Int) := ⟨P.toNat, by omega⟩
        have hPm : (PS.map (fun p => s.drop p.toNat))[k]? = some (s.drop pn) := by rw [List.getElem?_map, hP, hpn0, Option.map_some, Int.toNat_natCast]
        rw [dropP hx, dropP hPm] at hgo
        have hpn : pn ≤ s.length := by omega
        have hpn1 : pn ≤ s.length + 1 := by omega
        obtain ⟨b, off, hA, hcs⟩ := HRA.out.2 (by omega)
        have c0 : wr.cell? ⟨b, off + k, none⟩ = some (.int .i64 (pn : Int)) := by rw [hcs k kn]; simp [el, hP, hpn0]
        subst hA
        clear hP hpr hpn0 hPm HG hx hcs
        rcases hx4 with rfl | rfl | rfl | rfl
        · obtain ⟨NU, hNU⟩ : ∃ x, numS ((s.drop pn).drop 1) = x := ⟨_, rfl⟩
          have HNU : Hid (numS ((s.drop pn).drop 1) = NU) := Lib.hid hNU
          have hr := num_range ((s.drop pn).drop 1)
          rw [hNU] at hr
          obtain ⟨hr1, hr2⟩ := hr
          have HG2 : Hid (goR (fl.drop (k + 1)) ((PS.map (fun p => s.drop p.toNat)).drop (k + 1)) (q.put 100 NU) = R) := Lib.hid (goR_step hgo hNU)
          clear hNU hgo
          go_wp2_with (first | (go_at_call 41; refine (rnumber1_any s pn _ hs hpn).mono ?_; rw [HNU.out]; rintro e w7 ⟨rfl, rfl⟩) | (refine cellStore rfl 3 _ _ rfl gI 1 rfl (.int .i64 NU) rfl rfl rfl HI.out (slot_lt OP q 100) infoIn1 ?_; intro w8 ha ho; replace HI : Hid (w8.heap[gI]? = some (.cells (insQ OP (q.put 100 NU)) 27 (0, 0))) := Lib.hid (ha.trans (congrArg (fun c => some (Obj.cells c 27 (0, 0))) (ins_put OP q 100 NU))); replace HR := keepAo HR HRI.out ho; replace HRA := Lib.hid (HRA.out.only2 ho HNA.out); replace HB := keepBo HB HGI.out ho; clear ha ho))
          go_roundw
          case rel => exact ⟨k + 1, q.put 100 NU, by omega, by go_num, put_ok hq hr1 hr2 _, HG2, HRA, HI, HR, HB⟩
          case measure => simp [intOf]; omega
        · obtain ⟨NU, hNU⟩ : ∃ x, numS ((s.drop pn).drop 1) = x := ⟨_, rfl⟩
          have HNU : Hid (numS ((s.drop pn).drop 1) = NU) := Lib.hid hNU
          have hr := num_range ((s.drop pn).drop 1)
          rw [hNU] at hr
          obtain ⟨hr1, hr2⟩ := hr
          have HG2 : Hid (goR (fl.drop (k + 1)) ((PS.map (fun p => s.drop p.toNat)).drop (k + 1)) (q.put 97 NU) = R) := Lib.hid (goR_step hgo hNU)
          clear hNU hgo
          go_wp2_with (first | (go_at_call 41; refine (rnumber1_any s pn _ hs hpn).mono ?_; rw [HNU.out]; rintro e w7 ⟨rfl, rfl⟩) | (refine cellStore rfl 3 _ _ rfl gI 2 rfl (.int .i64 NU) rfl rfl rfl HI.out (slot_lt OP q 97) infoIn1 ?_; intro w8 ha ho; replace HI : Hid (w8.heap[gI]? = some (.cells (insQ OP (q.put 97 NU)) 27 (0, 0))) := Lib.hid (ha.trans (congrArg (fun c => some (Obj.cells c 27 (0, 0))) (ins_put OP q 97 NU))); replace HR := keepAo HR HRI.out ho; replace HRA := Lib.hid (HRA.out.only2 ho HNA.out); replace HB := keepBo HB HGI.out ho; clear ha ho))
          go_roundw
          case rel => exact ⟨k + 1, q.put 97 NU, by omega, by go_num, put_ok hq hr1 hr2 _, HG2, HRA, HI, HR, HB⟩
          case measure => simp [intOf]; omega
        · obtain ⟨NU, hNU⟩ : ∃ x, numS ((s.drop pn).drop 1) = x := ⟨_, rfl⟩
          have HNU : Hid (numS ((s.drop pn).drop 1) = NU) := Lib.hid hNU
          have hr := num_range ((s.drop pn).drop 1)
          rw [hNU] at hr
          obtain ⟨hr1, hr2⟩ := hr
          have HG2 : Hid (goR (fl.drop (k + 1)) ((PS.map (fun p => s.drop p.toNat)).drop (k + 1)) (q.put 98 NU) = R) := Lib.hid (goR_step hgo hNU)
          clear hNU hgo
          go_wp2_with (first | (go_at_call 41; refine (rnumber1_any s pn _ hs hpn).mono ?_; rw [HNU.out]; rintro e w7 ⟨rfl, rfl⟩) | (refine cellStore rfl 3 _ _ rfl gI 3 rfl (.int .i64 NU) rfl rfl rfl HI.out (slot_lt OP q 98) infoIn1 ?_; intro w8 ha ho; replace HI : Hid (w8.heap[gI]? = some (.cells (insQ OP (q.put 98 NU)) 27 (0, 0))) := Lib.hid (ha.trans (congrArg (fun c => some (Obj.cells c 27 (0, 0))) (ins_put OP q 98 NU))); replace HR := keepAo HR HRI.out ho; replace HRA := Lib.hid (HRA.out.only2 ho HNA.out); replace HB := keepBo HB HGI.out ho; clear ha ho))
          go_roundw
          case rel => exact ⟨k + 1, q.put 98 NU, by omega, by go_num, put_ok hq hr1 hr2 _, HG2, HRA, HI, HR, HB⟩
          case measure => simp [intOf]; omega
        · obtain ⟨NU, hNU⟩ : ∃ x, numS ((s.drop pn)) = x := ⟨_, rfl⟩
          have HNU : Hid (numS ((s.drop pn)) = NU) := Lib.hid hNU
          have hr := num_range ((s.drop pn))
          rw [hNU] at hr
          obtain ⟨hr1, hr2⟩ := hr
          have HG2 : Hid (goR (fl.drop (k + 1)) ((PS.map (fun p => s.drop p.toNat)).drop (k + 1)) (q.put 105 NU) = R) := Lib.hid (goR_step hgo hNU)
          clear hNU hgo
          go_wp2_with (first | (go_at_call 41; refine (rnumber_any s pn _ hs hpn1).mono ?_; rw [HNU.out]; rintro e w7 ⟨rfl, rfl⟩) | (refine cellStore rfl 3 _ _ rfl gI 4 rfl (.int .i64 NU) rfl rfl rfl HI.out (slot_lt OP q 105) infoIn1 ?_; intro w8 ha ho; replace HI : Hid (w8.heap[gI]? = some (.cells (insQ OP (q.put 105 NU)) 27 (0, 0))) := Lib.hid (ha.trans (congrArg (fun c => some (Obj.cells c 27 (0, 0))) (ins_put OP q 105 NU))); replace HR := keepAo HR HRI.out ho; replace HRA := Lib.hid (HRA.out.only2 ho HNA.out); replace HB := keepBo HB HGI.out ho; clear ha ho))
          go_roundw
          case rel => exact ⟨k + 1, q.put 105 NU, by omega, by go_num, put_ok hq hr1 hr2 _, HG2, HRA, HI, HR, HB⟩
          case measure => simp [intOf]; omega
      · have HE : Hid (q = R) := Lib.hid (by
          have h1 := HG.out
          rw [List.drop_eq_nil_of_le (show (PS.map (fun p => s.drop p.toNat)).length ≤ k by rw [List.length_map]; omega), goR_nil] at h1
          exact h1)
        clear hx hx4 hc
        have hz := HZ.out
        obtain ⟨PQ, hPQ⟩ : ∃ x, printQ OP q = x := ⟨_, rfl⟩
        have HPQ := Lib.hid hPQ
        unfold doneV at hz
        rw [← HE.out, hPQ] at hz
        clear HG HZ hPQ
        by_cases hps : PQ = s
        · rw [if_pos hps] at hz
          subst hz
          have q3 : ((bs PQ).toList == (bs s).toList) = true := by rw [hps]; simp
          clear hps HE
          go_wp2_with (first | (refine rowLoad (by rfl) 27 _ rfl gI rfl (cs := insQ OP q) HI.out Tryd.underlying27 rfl infoIn ?_) | (go_at_call 14; refine (rprintq_any OP q _ hq).mono ?_; rw [HPQ.out]; rintro e w9 ⟨rfl, hb⟩; replace HB := keepB HB hb; replace HR := keepA HR hb; replace HI := keepA HI hb; clear hb) | (refine rowStore (by rfl) 27 _ _ rfl gR rfl (insQ OP q) rfl HR.out (insQ_info OP q) (insQ_sz 0 0 0 0 0 OP q) (insQ_one OP q) ?_; intro w8 ha ho; replace HR := Lib.hid ha; replace HB := keepBo HB HGR.out ho; clear ha ho))
          exact bodyPost_ret (res1c rfl _ _ gR 27 (insQ OP q) (0, 0) _ rfl HR.out Tryd.underlying27 rfl infoIn) rfl ⟨rfl, HB.out.1⟩
        · rw [if_neg hps] at hz
          subst hz
          have q3 : ((bs PQ).toList == (bs s).toList) = false := toL_ne hps
          clear hps HE
          go_wp2_with (first | (refine rowLoad (by rfl) 27 _ rfl gI rfl (cs := insQ OP q) HI.out Tryd.underlying27 rfl infoIn ?_) | (go_at_call 14; refine (rprintq_any OP q _ hq).mono ?_; rw [HPQ.out]; rintro e w9 ⟨rfl, hb⟩; replace HB := keepB HB hb; replace HR := keepA HR hb; replace HI := keepA HI hb; clear hb) | (refine wlBuild rfl 27 #[] rfl (.agg (insA 0 0 0 0 0)) (by kernel_rfl) ?_) | (refine rowStore (by rfl) 27 _ _ rfl gR rfl (insA 0 0 0 0 0) rfl HR.out infoIn rfl (insA_one _ _ _ _ _) ?_; intro w8 ha ho; replace HR := Lib.hid ha; replace HB := keepBo HB HGR.out ho; clear ha ho))
          exact bodyPost_ret (res1c rfl _ _ gR 27 (insQ 0 q0) (0, 0) _ rfl HR.out Tryd.underlying27 rfl infoIn) rfl ⟨rfl, HB.out.1⟩
    · have HE : Hid (q = R) := Lib.hid (by
        have h1 := HG.out
        rw [List.drop_eq_nil_of_le (show fl.length ≤ k by rw [← HFZ.out]; omega)] at h1
        exact h1)
      have hz := HZ.out
      obtain ⟨PQ, hPQ⟩ : ∃ x, printQ OP q = x := ⟨_, rfl⟩
      have HPQ := Lib.hid hPQ
      unfold doneV at hz
      rw [← HE.out, hPQ] at hz
      clear HG HZ hPQ
      by_cases hps : PQ = s
      · rw [if_pos hps] at hz
        subst hz
        have q3 : ((bs PQ).toList == (bs s).toList) = true := by rw [hps]; simp
        clear hps HE
        go_wp2_with (first | (refine rowLoad (by rfl) 27 _ rfl gI rfl (cs := insQ OP q) HI.out Tryd.underlying27 rfl infoIn ?_) | (go_at_call 14; refine (rprintq_any OP q _ hq).mono ?_; rw [HPQ.out]; rintro e w9 ⟨rfl, hb⟩; replace HB := keepB HB hb; replace HR := keepA HR hb; replace HI := keepA HI hb; clear hb) | (refine rowStore (by rfl) 27 _ _ rfl gR rfl (insQ OP q) rfl HR.out (insQ_info OP q) (insQ_sz 0 0 0 0 0 OP q) (insQ_one OP q) ?_; intro w8 ha ho; replace HR := Lib.hid ha; replace HB := keepBo HB HGR.out ho; clear ha ho))
        exact bodyPost_ret (res1c rfl _ _ gR 27 (insQ OP q) (0, 0) _ rfl HR.out Tryd.underlying27 rfl infoIn) rfl ⟨rfl, HB.out.1⟩
      · rw [if_neg hps] at hz
        subst hz
        have q3 : ((bs PQ).toList == (bs s).toList) = false := toL_ne hps
        clear hps HE
        go_wp2_with (first | (refine rowLoad (by rfl) 27 _ rfl gI rfl (cs := insQ OP q) HI.out Tryd.underlying27 rfl infoIn ?_) | (go_at_call 14; refine (rprintq_any OP q _ hq).mono ?_; rw [HPQ.out]; rintro e w9 ⟨rfl, hb⟩; replace HB := keepB HB hb; replace HR := keepA HR hb; replace HI := keepA HI hb; clear hb) | (refine wlBuild rfl 27 #[] rfl (.agg (insA 0 0 0 0 0)) (by kernel_rfl) ?_) | (refine rowStore (by rfl) 27 _ _ rfl gR rfl (insA 0 0 0 0 0) rfl HR.out infoIn rfl (insA_one _ _ _ _ _) ?_; intro w8 ha ho; replace HR := Lib.hid ha; replace HB := keepBo HB HGR.out ho; clear ha ho))
        exact bodyPost_ret (res1c rfl _ _ gR 27 (insQ 0 q0) (0, 0) _ rfl HR.out Tryd.underlying27 rfl infoIn) rfl ⟨rfl, HB.out.1⟩
theorem trparse_any (s : List UInt8) (w : World) (hs : s.length ≤ 1000000) :
    Calls Tryd.prog 17 #[.string (bs s)] w fun e w' => e = .returned (.tuple #[.agg (insQ (parP s).op (parP s).q), .int .i64 (parP s).e]) ∧ Below w.heap.size w w' := by
  rw [← par_same]
  by_cases h0 : opV (headV s) = 0
  · have e : parR s = ⟨0, q0, 9⟩ := by unfold parR; rw [if_pos h0]
    rw [e]
    exact rparse_none s w hs h0
  · exact rparse_some s w hs h0
end Go.Proofs.YtnlghbnehfgobaaDoor.My
