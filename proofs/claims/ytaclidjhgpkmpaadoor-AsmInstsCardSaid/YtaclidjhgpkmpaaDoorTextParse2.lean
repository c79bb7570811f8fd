/- Walk: the number of any decimal text. -/
import Derived.Test.YtaclidjhgpkmpaaDoorTextParse
set_option linter.unusedVariables false
namespace Go.Proofs.YtaclidjhgpkmpaaDoor.My
open Go.RowKit
theorem ret_tup {k l : IntKind} {a b c : Int} (h : a = b) : Ending.returned (.tuple #[.int k a, .int l c]) = .returned (.tuple #[.int k b, .int l c]) := by rw [h]
theorem neg_64 {U : Int} (h0 : 0 ≤ U) (h1 : U ≤ 9223372036854775808) : wrap64 (IntKind.u64.wrap (-U)) = -U := by
  have e : IntKind.u64.wrap (-U) = -U % 18446744073709551616 := by simp [IntKind.wrap, IntKind.bits, IntKind.signed]
  rw [e]
  unfold wrap64
  omega
theorem parse_m_none (s : ByteArray) (w : World) (R : Int × Int) (hm : s.size ≤ 9223372036854775807) (hx : hexV s = (0, false)) (h0 : 0 < s.size) (q0 : bAt s 0 = 45) (d : ByteArray) (ht : s.extract 1 s.size = d) (hR : tailV true d = R) (hd : d.size = 0) : Calls Tryd.prog 73 #[.string s] w fun e w' => e = .returned (.tuple #[.int .i64 R.1, .int .i64 R.2]) ∧ Below w.heap.size w w' := by
  have HB := startB w
  have eb : ∀ i (h : i < s.size), (s[i]'h).toNat = bAt s i := fun i h => bAt_eq h
  have hz : d.size = s.size - 1 := by rw [← ht, ByteArray.size_extract]; omega
  have eb2 : ∀ i (h : i < d.size), (d[i]'h).toNat = bAt d i := fun i h => bAt_eq h
  have e1 : (d.toList == []) = true := by rw [is_none, hd]; rfl
  have hR' : R = (0, 2) := by rw [← hR]; unfold tailV; rw [if_pos (.inl hd)]
  subst hR'
  clear hR
  go_enter Tryd.func73, Tryd.ntmps73; go_wp2_with (go_at_call 84; refine (hexP_any _ _ hm).mono ?_; rintro e w1 ⟨rfl, hb⟩; rw [hx]; replace HB := keepB HB hb; clear hb)
  go_ret2
  exact ⟨rfl, HB.out.1⟩
theorem parse_m_nought (s : ByteArray) (w : World) (R : Int × Int) (hm : s.size ≤ 9223372036854775807) (hx : hexV s = (0, false)) (h0 : 0 < s.size) (q0 : bAt s 0 = 45) (d : ByteArray) (ht : s.extract 1 s.size = d) (hR : tailV true d = R) (hd : 0 < d.size) (h48 : bAt d 0 = 48) : Calls Tryd.prog 73 #[.string s] w fun e w' => e = .returned (.tuple #[.int .i64 R.1, .int .i64 R.2]) ∧ Below w.heap.size w w' := by
  have HB := startB w
  have eb : ∀ i (h : i < s.size), (s[i]'h).toNat = bAt s i := fun i h => bAt_eq h
  have hz : d.size = s.size - 1 := by rw [← ht, ByteArray.size_extract]; omega
  have eb2 : ∀ i (h : i < d.size), (d[i]'h).toNat = bAt d i := fun i h => bAt_eq h
  have e1 : (d.toList == []) = false := by rw [is_none]; exact beq_eq_false_iff_ne.2 (by omega)
  have hR' : R = (0, 2) := by rw [← hR]; unfold tailV; rw [if_pos (.inr (.inl ⟨h48, .inl rfl⟩))]
  subst hR'
  clear hR
  go_enter Tryd.func73, Tryd.ntmps73; go_wp2_with (go_at_call 84; refine (hexP_any _ _ hm).mono ?_; rintro e w1 ⟨rfl, hb⟩; rw [hx]; replace HB := keepB HB hb; clear hb)
  go_ret2
  exact ⟨rfl, HB.out.1⟩
theorem parse_m_ok (s : ByteArray) (w : World) (R : Int × Int) (hm : s.size ≤ 9223372036854775807) (hx : hexV s = (0, false)) (h0 : 0 < s.size) (q0 : bAt s 0 = 45) (d : ByteArray) (ht : s.extract 1 s.size = d) (hR : tailV true d = R) (hd : 0 < d.size) (h48 : bAt d 0 ≠ 48) : Calls Tryd.prog 73 #[.string s] w fun e w' => e = .returned (.tuple #[.int .i64 R.1, .int .i64 R.2]) ∧ Below w.heap.size w w' := by
  have HB := startB w
  have eb : ∀ i (h : i < s.size), (s[i]'h).toNat = bAt s i := fun i h => bAt_eq h
  have hz : d.size = s.size - 1 := by rw [← ht, ByteArray.size_extract]; omega
  have eb2 : ∀ i (h : i < d.size), (d[i]'h).toNat = bAt d i := fun i h => bAt_eq h
  have e1 : (d.toList == []) = false := by rw [is_none]; exact beq_eq_false_iff_ne.2 (by omega)
  have q2 : ((bAt d 0 : Int) == 48) = false := beq_eq_false_iff_ne.2 (by omega)
  have hno : ¬ bAt d 0 = 48 := h48
  have HQ := Lib.hid hR
  have HZ := Lib.hid hno
  clear hR hno
  go_enter Tryd.func73, Tryd.ntmps73; go_wp2_with (go_at_call 84; refine (hexP_any _ _ hm).mono ?_; rintro e w1 ⟨rfl, hb⟩; rw [hx]; replace HB := keepB HB hb; clear hb)
  have HG := Lib.hid HB.out.2
  have HI : Hid ((w1.iter d 0).heap[w1.heap.size]? = some (.stringIter d 0)) := World.iter_heap w1 d 0
  replace HB := keepBa HB (.stringIter d 0)
  go_loopw [2] (fun r wr => ∃ k : Nat, k ≤ d.size ∧ r = .int .i64 0 ∧ Hid (∀ i, i < k → 48 ≤ bAt d i ∧ bAt d i ≤ 57) ∧ Hid (wr.heap[w1.heap.size]? = some (.stringIter d k)) ∧ Hid (Below w.heap.size w wr ∧ w.heap.size ≤ wr.heap.size)) (fun _ wr => d.size - wr.iterPos w1.heap.size)
  case atStart => exact ⟨0, Nat.zero_le _, rfl, fun i hi => by omega, HI, HB⟩
  case round =>
    clear HI HB
    obtain ⟨k, hkt, rfl, HD, HI, HB⟩ := hrel
    obtain ⟨wo, rfl⟩ : ∃ wo, wo = wr := ⟨wr, rfl⟩
    have HI0 := HI
    by_cases hk : k < d.size
    · obtain ⟨c, hc⟩ : ∃ c, bAt d k = c := ⟨_, rfl⟩
      have HC : Hid (c = bAt d k) := Lib.hid hc.symm
      have c1 := bAt_lt d k
      rw [hc] at c1
      clear hc
      by_cases hdg : 48 ≤ c ∧ c ≤ 57
      · obtain ⟨g1, g2⟩ := hdg
        have hb : c < 128 := by omega
        go_wp2_with (refine iterLow rfl _ rfl w1.heap.size rfl HI.out hk (Eq.symm HC.out) hb ?_; intro w2 hi ho; replace HI := Lib.hid hi; replace HB := keepBo HB HG.out ho; clear hi ho)
        go_roundw
        case rel => exact ⟨k + 1, by omega, rfl, (fun i hi => by
          by_cases h : i < k
          · exact HD.out i h
          · rw [show i = k by omega, ← HC.out]; exact ⟨g1, g2⟩), HI, HB⟩
        case measure => rw [pos_of HI.out, pos_of HI0.out]; omega
      · have hR' : R = (0, 2) := by
          rw [← HQ.out]; unfold tailV; rw [if_pos (.inr (.inr fun h => hdg (by rw [HC.out]; exact h k hk)))]
        subst hR'
        by_cases hb : c < 128
        · rcases (show c < 48 ∨ 57 < c by omega) with q | q
          · clear hdg
            go_wp2_with (refine iterLow rfl _ rfl w1.heap.size rfl HI.out hk (Eq.symm HC.out) hb ?_; intro w2 hi ho; replace HI := Lib.hid hi; replace HB := keepBo HB HG.out ho; clear hi ho)
            go_ret2
            exact ⟨rfl, HB.out.1⟩
          · clear hdg
            go_wp2_with (refine iterLow rfl _ rfl w1.heap.size rfl HI.out hk (Eq.symm HC.out) hb ?_; intro w2 hi ho; replace HI := Lib.hid hi; replace HB := keepBo HB HG.out ho; clear hi ho)
            go_ret2
            exact ⟨rfl, HB.out.1⟩
        · have hb : 128 ≤ bAt d k := by rw [← HC.out]; omega
          clear hdg
          go_wp2_with (refine iterHigh rfl _ rfl w1.heap.size rfl HI.out hk hb ?_; intro r q w2 r1 r2 _ _ hi ho; replace HI := Lib.hid hi; replace HB := keepBo HB HG.out ho; clear hi ho)
          go_ret2
          exact ⟨rfl, HB.out.1⟩
    · have hg : digs d := fun i hi => HD.out i (by omega)
      have hnb : ¬ badV true d := fun h => by
        rcases h with h | h | h
        · omega
        · exact HZ.out h.1
        · exact h hg
      have HDG := Lib.hid hg
      clear hg
      by_cases h19 : 19 < d.size
      · have hR' : R = (0, 3) := by rw [← HQ.out]; unfold tailV; rw [if_neg hnb, if_pos h19]
        subst hR'
        clear hnb
        first
          | (exfalso; omega)
          | (go_wp2_with (refine iterEnd rfl _ rfl w1.heap.size rfl HI.out hk ?_)
             go_ret2
             exact ⟨rfl, HB.out.1⟩)
      · obtain ⟨V, hV⟩ : ∃ V, decR d d.size 0 0 = V := ⟨_, rfl⟩
        have hR' : valN true V = R := by rw [← HQ.out]; unfold tailV; rw [if_neg hnb, if_neg h19, hV]
        have HR := Lib.hid hR'
        have HV := Lib.hid hV
        have HG2 := Lib.hid HB.out.2
        have HI2 : Hid ((wo.iter d 0).heap[wo.heap.size]? = some (.stringIter d 0)) := World.iter_heap wo d 0
        clear hnb hR' hV
        go_wp2_with (refine iterEnd rfl _ rfl w1.heap.size rfl HI.out hk ?_)
        replace HB := keepBa HB (.stringIter d 0)
        clear hk
        go_loopw [10] (fun u wq => ∃ (j : Nat) (U : Int), j ≤ d.size ∧ u = .int .u64 U ∧ 0 ≤ U ∧ Hid (U < 10 ^ j) ∧ Hid (decR d (d.size - j) j U = V) ∧ Hid (wq.heap[wo.heap.size]? = some (.stringIter d j)) ∧ Hid (Below w.heap.size w wq ∧ w.heap.size ≤ wq.heap.size)) (fun _ wq => d.size - wq.iterPos wo.heap.size)
        case atStart => exact ⟨0, 0, Nat.zero_le _, rfl, Int.le_refl _, by show (0 : Int) < 10 ^ 0; decide, by show decR d (d.size - 0) 0 0 = V; exact HV.out, HI2, HB⟩
        case round =>
        clear HI2 HB
        obtain ⟨j, U, hjt, rfl, u0, HU, HX, HI2, HB⟩ := hrel
        have HI3 := HI2
        by_cases hk : j < d.size
        · obtain ⟨c, hc⟩ : ∃ c, bAt d j = c := ⟨_, rfl⟩
          have HC : Hid (c = bAt d j) := Lib.hid hc.symm
          obtain ⟨g1, g2⟩ := HDG.out j hk
          rw [hc] at g1 g2
          have hb : c < 128 := by omega
          have hx2 := HX.out
          rw [show d.size - j = (d.size - (j + 1)) + 1 by omega, decR, hc] at hx2
          replace HX := Lib.hid hx2
          have u1 : U < 1000000000000000000 := Int.lt_of_lt_of_le HU.out (pow_10 (by omega))
          clear hc hx2
          go_wp2_with (refine iterLow rfl _ rfl wo.heap.size rfl HI2.out hk (Eq.symm HC.out) hb ?_; intro w2 hi ho; replace HI2 := Lib.hid hi; replace HB := keepBo HB HG2.out ho; clear hi ho)
          go_roundw
          case rel => exact ⟨j + 1, 10 * U + ((c : Int) - 48), by omega, by go_num, by omega, by show 10 * U + ((c : Int) - 48) < 10 ^ (j + 1); rw [Int.pow_succ]; have := HU.out; omega, HX, HI2, HB⟩
          case measure => rw [pos_of HI2.out, pos_of HI3.out]; omega
        · have hx2 := HX.out
          rw [show d.size - j = 0 by omega, decR] at hx2
          subst hx2
          clear HX
          by_cases hv : U ≤ 9223372036854775808
          · have hR' : R = (-U, 0) := by rw [← HR.out]; unfold valN; rw [if_pos rfl, if_pos hv]
            subst hR'
            go_wp2_with (refine iterEnd rfl _ rfl wo.heap.size rfl HI2.out hk ?_)
            go_ret2
            exact ⟨ret_tup (neg_64 u0 hv), HB.out.1⟩
          · have hR' : R = (0, 3) := by rw [← HR.out]; unfold valN; rw [if_pos rfl, if_neg hv]
            subst hR'
            go_wp2_with (refine iterEnd rfl _ rfl wo.heap.size rfl HI2.out hk ?_)
            go_ret2
            exact ⟨rfl, HB.out.1⟩
theorem parse_p_nought (s : ByteArray) (w : World) (R : Int × Int) (hm : s.size ≤ 9223372036854775807) (hx : hexV s = (0, false)) (h0 : 0 < s.size) (q0 : bAt s 0 ≠ 45) (hR : tailV false s = R) (hd : 0 < s.size) (h48 : bAt s 0 = 48) (h1 : 1 < s.size) : Calls Tryd.prog 73 #[.string s] w fun e w' => e = .returned (.tuple #[.int .i64 R.1, .int .i64 R.2]) ∧ Below w.heap.size w w' := by
  have HB := startB w
  have eb : ∀ i (h : i < s.size), (s[i]'h).toNat = bAt s i := fun i h => bAt_eq h
  have q1 : ((bAt s 0 : Int) == 45) = false := beq_eq_false_iff_ne.2 (by omega)
  have e1 : (s.toList == []) = false := by rw [is_none]; exact beq_eq_false_iff_ne.2 (by omega)
  have hR' : R = (0, 2) := by rw [← hR]; unfold tailV; rw [if_pos (.inr (.inl ⟨h48, .inr h1⟩))]
  subst hR'
  clear hR
  go_enter Tryd.func73, Tryd.ntmps73; go_wp2_with (go_at_call 84; refine (hexP_any _ _ hm).mono ?_; rintro e w1 ⟨rfl, hb⟩; rw [hx]; replace HB := keepB HB hb; clear hb)
  go_ret2
  exact ⟨rfl, HB.out.1⟩
theorem parse_p_ok1 (s : ByteArray) (w : World) (R : Int × Int) (hm : s.size ≤ 9223372036854775807) (hx : hexV s = (0, false)) (h0 : 0 < s.size) (q0 : bAt s 0 ≠ 45) (hR : tailV false s = R) (h48 : bAt s 0 = 48) (h1 : s.size = 1) : Calls Tryd.prog 73 #[.string s] w fun e w' => e = .returned (.tuple #[.int .i64 R.1, .int .i64 R.2]) ∧ Below w.heap.size w w' := by
  have HB := startB w
  have eb : ∀ i (h : i < s.size), (s[i]'h).toNat = bAt s i := fun i h => bAt_eq h
  have q1 : ((bAt s 0 : Int) == 45) = false := beq_eq_false_iff_ne.2 (by omega)
  have e1 : (s.toList == []) = false := by rw [is_none]; exact beq_eq_false_iff_ne.2 (by omega)
  have hno : ¬ (bAt s 0 = 48 ∧ 1 < s.size) := fun h => by omega
  have HQ := Lib.hid hR
  have HZ := Lib.hid hno
  clear hR hno
  go_enter Tryd.func73, Tryd.ntmps73; go_wp2_with (go_at_call 84; refine (hexP_any _ _ hm).mono ?_; rintro e w1 ⟨rfl, hb⟩; rw [hx]; replace HB := keepB HB hb; clear hb)
  have HG := Lib.hid HB.out.2
  have HI : Hid ((w1.iter s 0).heap[w1.heap.size]? = some (.stringIter s 0)) := World.iter_heap w1 s 0
  replace HB := keepBa HB (.stringIter s 0)
  go_loopw [2] (fun r wr => ∃ k : Nat, k ≤ s.size ∧ r = .int .i64 0 ∧ Hid (∀ i, i < k → 48 ≤ bAt s i ∧ bAt s i ≤ 57) ∧ Hid (wr.heap[w1.heap.size]? = some (.stringIter s k)) ∧ Hid (Below w.heap.size w wr ∧ w.heap.size ≤ wr.heap.size)) (fun _ wr => s.size - wr.iterPos w1.heap.size)
  case atStart => exact ⟨0, Nat.zero_le _, rfl, fun i hi => by omega, HI, HB⟩
  case round =>
    clear HI HB
    obtain ⟨k, hkt, rfl, HD, HI, HB⟩ := hrel
    obtain ⟨wo, rfl⟩ : ∃ wo, wo = wr := ⟨wr, rfl⟩
    have HI0 := HI
    by_cases hk : k < s.size
    · obtain ⟨c, hc⟩ : ∃ c, bAt s k = c := ⟨_, rfl⟩
      have HC : Hid (c = bAt s k) := Lib.hid hc.symm
      have c1 := bAt_lt s k
      rw [hc] at c1
      clear hc
      by_cases hdg : 48 ≤ c ∧ c ≤ 57
      · obtain ⟨g1, g2⟩ := hdg
        have hb : c < 128 := by omega
        go_wp2_with (refine iterLow rfl _ rfl w1.heap.size rfl HI.out hk (Eq.symm HC.out) hb ?_; intro w2 hi ho; replace HI := Lib.hid hi; replace HB := keepBo HB HG.out ho; clear hi ho)
        go_roundw
        case rel => exact ⟨k + 1, by omega, rfl, (fun i hi => by
          by_cases h : i < k
          · exact HD.out i h
          · rw [show i = k by omega, ← HC.out]; exact ⟨g1, g2⟩), HI, HB⟩
        case measure => rw [pos_of HI.out, pos_of HI0.out]; omega
      · have hR' : R = (0, 2) := by
          rw [← HQ.out]; unfold tailV; rw [if_pos (.inr (.inr fun h => hdg (by rw [HC.out]; exact h k hk)))]
        subst hR'
        by_cases hb : c < 128
        · rcases (show c < 48 ∨ 57 < c by omega) with q | q
          · clear hdg
            go_wp2_with (refine iterLow rfl _ rfl w1.heap.size rfl HI.out hk (Eq.symm HC.out) hb ?_; intro w2 hi ho; replace HI := Lib.hid hi; replace HB := keepBo HB HG.out ho; clear hi ho)
            go_ret2
            exact ⟨rfl, HB.out.1⟩
          · clear hdg
            go_wp2_with (refine iterLow rfl _ rfl w1.heap.size rfl HI.out hk (Eq.symm HC.out) hb ?_; intro w2 hi ho; replace HI := Lib.hid hi; replace HB := keepBo HB HG.out ho; clear hi ho)
            go_ret2
            exact ⟨rfl, HB.out.1⟩
        · have hb : 128 ≤ bAt s k := by rw [← HC.out]; omega
          clear hdg
          go_wp2_with (refine iterHigh rfl _ rfl w1.heap.size rfl HI.out hk hb ?_; intro r q w2 r1 r2 _ _ hi ho; replace HI := Lib.hid hi; replace HB := keepBo HB HG.out ho; clear hi ho)
          go_ret2
          exact ⟨rfl, HB.out.1⟩
    · have hg : digs s := fun i hi => HD.out i (by omega)
      have hnb : ¬ badV false s := fun h => by
        rcases h with h | h | h
        · omega
        · exact HZ.out ⟨h.1, h.2.resolve_left (by decide)⟩
        · exact h hg
      have HDG := Lib.hid hg
      clear hg
      by_cases h19 : 19 < s.size
      · have hR' : R = (0, 3) := by rw [← HQ.out]; unfold tailV; rw [if_neg hnb, if_pos h19]
        subst hR'
        clear hnb
        first
          | (exfalso; omega)
          | (go_wp2_with (refine iterEnd rfl _ rfl w1.heap.size rfl HI.out hk ?_)
             go_ret2
             exact ⟨rfl, HB.out.1⟩)
      · obtain ⟨V, hV⟩ : ∃ V, decR s s.size 0 0 = V := ⟨_, rfl⟩
        have hR' : valN false V = R := by rw [← HQ.out]; unfold tailV; rw [if_neg hnb, if_neg h19, hV]
        have HR := Lib.hid hR'
        have HV := Lib.hid hV
        have HG2 := Lib.hid HB.out.2
        have HI2 : Hid ((wo.iter s 0).heap[wo.heap.size]? = some (.stringIter s 0)) := World.iter_heap wo s 0
        clear hnb hR' hV
        go_wp2_with (refine iterEnd rfl _ rfl w1.heap.size rfl HI.out hk ?_)
        replace HB := keepBa HB (.stringIter s 0)
        clear hk
        go_loopw [10] (fun u wq => ∃ (j : Nat) (U : Int), j ≤ s.size ∧ u = .int .u64 U ∧ 0 ≤ U ∧ Hid (U < 10 ^ j) ∧ Hid (decR s (s.size - j) j U = V) ∧ Hid (wq.heap[wo.heap.size]? = some (.stringIter s j)) ∧ Hid (Below w.heap.size w wq ∧ w.heap.size ≤ wq.heap.size)) (fun _ wq => s.size - wq.iterPos wo.heap.size)
        case atStart => exact ⟨0, 0, Nat.zero_le _, rfl, Int.le_refl _, by show (0 : Int) < 10 ^ 0; decide, by show decR s (s.size - 0) 0 0 = V; exact HV.out, HI2, HB⟩
        case round =>
        clear HI2 HB
        obtain ⟨j, U, hjt, rfl, u0, HU, HX, HI2, HB⟩ := hrel
        have HI3 := HI2
        by_cases hk : j < s.size
        · obtain ⟨c, hc⟩ : ∃ c, bAt s j = c := ⟨_, rfl⟩
          have HC : Hid (c = bAt s j) := Lib.hid hc.symm
          obtain ⟨g1, g2⟩ := HDG.out j hk
          rw [hc] at g1 g2
          have hb : c < 128 := by omega
          have hx2 := HX.out
          rw [show s.size - j = (s.size - (j + 1)) + 1 by omega, decR, hc] at hx2
          replace HX := Lib.hid hx2
          have u1 : U < 1000000000000000000 := Int.lt_of_lt_of_le HU.out (pow_10 (by omega))
          clear hc hx2
          go_wp2_with (refine iterLow rfl _ rfl wo.heap.size rfl HI2.out hk (Eq.symm HC.out) hb ?_; intro w2 hi ho; replace HI2 := Lib.hid hi; replace HB := keepBo HB HG2.out ho; clear hi ho)
          go_roundw
          case rel => exact ⟨j + 1, 10 * U + ((c : Int) - 48), by omega, by go_num, by omega, by show 10 * U + ((c : Int) - 48) < 10 ^ (j + 1); rw [Int.pow_succ]; have := HU.out; omega, HX, HI2, HB⟩
          case measure => rw [pos_of HI2.out, pos_of HI3.out]; omega
        · have hx2 := HX.out
          rw [show s.size - j = 0 by omega, decR] at hx2
          subst hx2
          clear HX
          by_cases hv : U < 9223372036854775808
          · have hR' : R = (U, 0) := by rw [← HR.out]; unfold valN; rw [if_neg (by decide), if_pos hv]
            subst hR'
            go_wp2_with (refine iterEnd rfl _ rfl wo.heap.size rfl HI2.out hk ?_)
            go_ret2
            exact ⟨rfl, HB.out.1⟩
          · have hR' : R = (0, 3) := by rw [← HR.out]; unfold valN; rw [if_neg (by decide), if_neg hv]
            subst hR'
            go_wp2_with (refine iterEnd rfl _ rfl wo.heap.size rfl HI2.out hk ?_)
            go_ret2
            exact ⟨rfl, HB.out.1⟩
theorem parse_p_ok2 (s : ByteArray) (w : World) (R : Int × Int) (hm : s.size ≤ 9223372036854775807) (hx : hexV s = (0, false)) (h0 : 0 < s.size) (q0 : bAt s 0 ≠ 45) (hR : tailV false s = R) (h48 : bAt s 0 ≠ 48) : Calls Tryd.prog 73 #[.string s] w fun e w' => e = .returned (.tuple #[.int .i64 R.1, .int .i64 R.2]) ∧ Below w.heap.size w w' := by
  have HB := startB w
  have eb : ∀ i (h : i < s.size), (s[i]'h).toNat = bAt s i := fun i h => bAt_eq h
  have q1 : ((bAt s 0 : Int) == 45) = false := beq_eq_false_iff_ne.2 (by omega)
  have e1 : (s.toList == []) = false := by rw [is_none]; exact beq_eq_false_iff_ne.2 (by omega)
  have q2 : ((bAt s 0 : Int) == 48) = false := beq_eq_false_iff_ne.2 (by omega)
  have hno : ¬ (bAt s 0 = 48 ∧ 1 < s.size) := fun h => h48 h.1
  have HQ := Lib.hid hR
  have HZ := Lib.hid hno
  clear hR hno
  go_enter Tryd.func73, Tryd.ntmps73; go_wp2_with (go_at_call 84; refine (hexP_any _ _ hm).mono ?_; rintro e w1 ⟨rfl, hb⟩; rw [hx]; replace HB := keepB HB hb; clear hb)
  have HG := Lib.hid HB.out.2
  have HI : Hid ((w1.iter s 0).heap[w1.heap.size]? = some (.stringIter s 0)) := World.iter_heap w1 s 0
  replace HB := keepBa HB (.stringIter s 0)
  go_loopw [2] (fun r wr => ∃ k : Nat, k ≤ s.size ∧ r = .int .i64 0 ∧ Hid (∀ i, i < k → 48 ≤ bAt s i ∧ bAt s i ≤ 57) ∧ Hid (wr.heap[w1.heap.size]? = some (.stringIter s k)) ∧ Hid (Below w.heap.size w wr ∧ w.heap.size ≤ wr.heap.size)) (fun _ wr => s.size - wr.iterPos w1.heap.size)
  case atStart => exact ⟨0, Nat.zero_le _, rfl, fun i hi => by omega, HI, HB⟩
  case round =>
    clear HI HB
    obtain ⟨k, hkt, rfl, HD, HI, HB⟩ := hrel
    obtain ⟨wo, rfl⟩ : ∃ wo, wo = wr := ⟨wr, rfl⟩
    have HI0 := HI
    by_cases hk : k < s.size
    · obtain ⟨c, hc⟩ : ∃ c, bAt s k = c := ⟨_, rfl⟩
      have HC : Hid (c = bAt s k) := Lib.hid hc.symm
      have c1 := bAt_lt s k
      rw [hc] at c1
      clear hc
      by_cases hdg : 48 ≤ c ∧ c ≤ 57
      · obtain ⟨g1, g2⟩ := hdg
        have hb : c < 128 := by omega
        go_wp2_with (refine iterLow rfl _ rfl w1.heap.size rfl HI.out hk (Eq.symm HC.out) hb ?_; intro w2 hi ho; replace HI := Lib.hid hi; replace HB := keepBo HB HG.out ho; clear hi ho)
        go_roundw
        case rel => exact ⟨k + 1, by omega, rfl, (fun i hi => by
          by_cases h : i < k
          · exact HD.out i h
          · rw [show i = k by omega, ← HC.out]; exact ⟨g1, g2⟩), HI, HB⟩
        case measure => rw [pos_of HI.out, pos_of HI0.out]; omega
      · have hR' : R = (0, 2) := by
          rw [← HQ.out]; unfold tailV; rw [if_pos (.inr (.inr fun h => hdg (by rw [HC.out]; exact h k hk)))]
        subst hR'
        by_cases hb : c < 128
        · rcases (show c < 48 ∨ 57 < c by omega) with q | q
          · clear hdg
            go_wp2_with (refine iterLow rfl _ rfl w1.heap.size rfl HI.out hk (Eq.symm HC.out) hb ?_; intro w2 hi ho; replace HI := Lib.hid hi; replace HB := keepBo HB HG.out ho; clear hi ho)
            go_ret2
            exact ⟨rfl, HB.out.1⟩
          · clear hdg
            go_wp2_with (refine iterLow rfl _ rfl w1.heap.size rfl HI.out hk (Eq.symm HC.out) hb ?_; intro w2 hi ho; replace HI := Lib.hid hi; replace HB := keepBo HB HG.out ho; clear hi ho)
            go_ret2
            exact ⟨rfl, HB.out.1⟩
        · have hb : 128 ≤ bAt s k := by rw [← HC.out]; omega
          clear hdg
          go_wp2_with (refine iterHigh rfl _ rfl w1.heap.size rfl HI.out hk hb ?_; intro r q w2 r1 r2 _ _ hi ho; replace HI := Lib.hid hi; replace HB := keepBo HB HG.out ho; clear hi ho)
          go_ret2
          exact ⟨rfl, HB.out.1⟩
    · have hg : digs s := fun i hi => HD.out i (by omega)
      have hnb : ¬ badV false s := fun h => by
        rcases h with h | h | h
        · omega
        · exact HZ.out ⟨h.1, h.2.resolve_left (by decide)⟩
        · exact h hg
      have HDG := Lib.hid hg
      clear hg
      by_cases h19 : 19 < s.size
      · have hR' : R = (0, 3) := by rw [← HQ.out]; unfold tailV; rw [if_neg hnb, if_pos h19]
        subst hR'
        clear hnb
        first
          | (exfalso; omega)
          | (go_wp2_with (refine iterEnd rfl _ rfl w1.heap.size rfl HI.out hk ?_)
             go_ret2
             exact ⟨rfl, HB.out.1⟩)
      · obtain ⟨V, hV⟩ : ∃ V, decR s s.size 0 0 = V := ⟨_, rfl⟩
        have hR' : valN false V = R := by rw [← HQ.out]; unfold tailV; rw [if_neg hnb, if_neg h19, hV]
        have HR := Lib.hid hR'
        have HV := Lib.hid hV
        have HG2 := Lib.hid HB.out.2
        have HI2 : Hid ((wo.iter s 0).heap[wo.heap.size]? = some (.stringIter s 0)) := World.iter_heap wo s 0
        clear hnb hR' hV
        go_wp2_with (refine iterEnd rfl _ rfl w1.heap.size rfl HI.out hk ?_)
        replace HB := keepBa HB (.stringIter s 0)
        clear hk
        go_loopw [10] (fun u wq => ∃ (j : Nat) (U : Int), j ≤ s.size ∧ u = .int .u64 U ∧ 0 ≤ U ∧ Hid (U < 10 ^ j) ∧ Hid (decR s (s.size - j) j U = V) ∧ Hid (wq.heap[wo.heap.size]? = some (.stringIter s j)) ∧ Hid (Below w.heap.size w wq ∧ w.heap.size ≤ wq.heap.size)) (fun _ wq => s.size - wq.iterPos wo.heap.size)
        case atStart => exact ⟨0, 0, Nat.zero_le _, rfl, Int.le_refl _, by show (0 : Int) < 10 ^ 0; decide, by show decR s (s.size - 0) 0 0 = V; exact HV.out, HI2, HB⟩
        case round =>
        clear HI2 HB
        obtain ⟨j, U, hjt, rfl, u0, HU, HX, HI2, HB⟩ := hrel
        have HI3 := HI2
        by_cases hk : j < s.size
        · obtain ⟨c, hc⟩ : ∃ c, bAt s j = c := ⟨_, rfl⟩
          have HC : Hid (c = bAt s j) := Lib.hid hc.symm
          obtain ⟨g1, g2⟩ := HDG.out j hk
          rw [hc] at g1 g2
          have hb : c < 128 := by omega
          have hx2 := HX.out
          rw [show s.size - j = (s.size - (j + 1)) + 1 by omega, decR, hc] at hx2
          replace HX := Lib.hid hx2
          have u1 : U < 1000000000000000000 := Int.lt_of_lt_of_le HU.out (pow_10 (by omega))
          clear hc hx2
          go_wp2_with (refine iterLow rfl _ rfl wo.heap.size rfl HI2.out hk (Eq.symm HC.out) hb ?_; intro w2 hi ho; replace HI2 := Lib.hid hi; replace HB := keepBo HB HG2.out ho; clear hi ho)
          go_roundw
          case rel => exact ⟨j + 1, 10 * U + ((c : Int) - 48), by omega, by go_num, by omega, by show 10 * U + ((c : Int) - 48) < 10 ^ (j + 1); rw [Int.pow_succ]; have := HU.out; omega, HX, HI2, HB⟩
          case measure => rw [pos_of HI2.out, pos_of HI3.out]; omega
        · have hx2 := HX.out
          rw [show s.size - j = 0 by omega, decR] at hx2
          subst hx2
          clear HX
          by_cases hv : U < 9223372036854775808
          · have hR' : R = (U, 0) := by rw [← HR.out]; unfold valN; rw [if_neg (by decide), if_pos hv]
            subst hR'
            go_wp2_with (refine iterEnd rfl _ rfl wo.heap.size rfl HI2.out hk ?_)
            go_ret2
            exact ⟨rfl, HB.out.1⟩
          · have hR' : R = (0, 3) := by rw [← HR.out]; unfold valN; rw [if_neg (by decide), if_neg hv]
            subst hR'
            go_wp2_with (refine iterEnd rfl _ rfl wo.heap.size rfl HI2.out hk ?_)
            go_ret2
            exact ⟨rfl, HB.out.1⟩
end Go.Proofs.YtaclidjhgpkmpaaDoor.My
