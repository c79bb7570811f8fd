/- RomFinds: an image's text in which one digit is another one is never read: for every image of at most 70 segments and 3000 bytes (of others the chapter's examples alone), any place and any byte. -/
import Derived.Test.YtnigkecpiolgeaaDoorRomGe
/- The law of sums, walked. -/
set_option linter.unusedVariables false
set_option linter.unusedSimpArgs false
namespace Go.Proofs.YtnigkecpiolgeaaDoor.My
open Go.RowKit
theorem digit_any (c : Nat) (w : World) (h : c < 256) : Calls Tryd.prog 19 #[.int .u8 c] w fun e w' => e = .returned (.bool (isDig c)) ∧ w = w' := by
  rcases (show c < 48 ∨ (48 ≤ c ∧ c ≤ 57) ∨ (57 < c ∧ c < 97) ∨ (97 ≤ c ∧ c ≤ 102) ∨ 102 < c by omega) with q | ⟨q, r⟩ | ⟨q, r⟩ | ⟨q, r⟩ | q
  · have e : isDig c = false := decide_eq_false (by omega)
    rw [e]
    go_enter Tryd.func19, Tryd.ntmps19
    go_wp2
    go_ret
    exact ⟨rfl, rfl⟩
  · have e : isDig c = true := decide_eq_true (by omega)
    rw [e]
    have f1 : decide ((c : Int) ≤ 57) = true := decide_eq_true (by omega)
    go_enter Tryd.func19, Tryd.ntmps19
    go_wp2
    go_ret
    exact ⟨rfl, rfl⟩
  · have e : isDig c = false := decide_eq_false (by omega)
    rw [e]
    have f1 : decide ((c : Int) ≤ 57) = false := decide_eq_false (by omega)
    go_enter Tryd.func19, Tryd.ntmps19
    go_wp2
    go_ret
    exact ⟨rfl, rfl⟩
  · have e : isDig c = true := decide_eq_true (by omega)
    rw [e]
    have f1 : decide ((c : Int) ≤ 57) = false := decide_eq_false (by omega)
    have f2 : decide ((c : Int) ≤ 102) = true := decide_eq_true (by omega)
    go_enter Tryd.func19, Tryd.ntmps19
    go_wp2
    go_ret
    exact ⟨rfl, rfl⟩
  · have e : isDig c = false := decide_eq_false (by omega)
    rw [e]
    have f1 : decide ((c : Int) ≤ 57) = false := decide_eq_false (by omega)
    have f2 : decide ((c : Int) ≤ 102) = false := decide_eq_false (by omega)
    go_enter Tryd.func19, Tryd.ntmps19
    go_wp2
    go_ret
    exact ⟨rfl, rfl⟩
theorem light_small : ∀ (ss : List SegV) (n : Nat), lightR n ss = true → (∀ s ∈ ss, s.d.length ≤ 600) ∧ n + totD ss ≤ 3000
  | [], n, h => ⟨(fun s hs => by cases hs), by unfold lightR at h; have := of_decide_eq_true h; show n + 0 ≤ 3000; omega⟩
  | s :: r, n, h => by
    rw [lightR] at h
    split at h
    · cases h
    · obtain ⟨h1, h2⟩ := light_small r _ h
      refine ⟨fun t ht => ?_, ?_⟩
      · rcases List.mem_cons.1 ht with rfl | ht
        · omega
        · exact h1 t ht
      · unfold totD at h2 ⊢
        rw [List.map_cons, List.sum_cons]
        omega
theorem light_ok {ss : List SegV} (h : lightB ss = true) : ss.length ≤ 70 ∧ (∀ s ∈ ss, s.d.length ≤ 600) ∧ totD ss ≤ 3000 := by
  unfold lightB at h
  split at h
  · cases h
  · obtain ⟨h1, h2⟩ := light_small ss 0 h
    exact ⟨by omega, h1, by omega⟩
set_option maxRecDepth 100000 in
set_option maxHeartbeats 4000000 in
theorem finds_out (st c : Nat) (S : Option Addr) (ms : List SegM) (at_ : Int) (cc : Nat) (m : Int) (w : World) (hM : w.cell? ⟨0, 0, none⟩ = some (.int .i64 m)) (hst : st < 4294967296) (hx : RdSgG w S ms) (hmx : ms.length ≤ 9223372036854775807) (hmc : ms.length ≤ c) (hcc : cc < 256) (ha1 : -9223372036854775808 ≤ at_) (ha2 : at_ ≤ 9223372036854775807)
    (h : lightB (ms.map SegM.v) = false ∨ isDig cc = false) : Calls Tryd.prog 6 #[.agg (imA st S ms.length c), .int .i64 at_, .int .u8 cc] w fun e w' => e = .returned (.bool true) ∧ Below w.heap.size w w' := by
  have HB := startB w
  have HM := Lib.hid hM
  have HX := Lib.hid hx
  clear hM hx
  by_cases hL : lightB (ms.map SegM.v) = false
  · have HLT := Lib.hid hL
    clear hL h
    go_enter Tryd.func6, Tryd.ntmps6
    go_wp2_with (first | (refine wlBox ?_ 25 _ rfl (imA st S ms.length c) rfl ?_; exact rfl; intro gI w1 hg hl ha hb; replace HB := keepB HB hb; have HI := Lib.hid ha; clear ha hb hg hl) | (refine rowLoad ?_ 25 _ rfl gI rfl (cs := imA st S ms.length c) HI.out Tryd.underlying25 rfl infoIm ?_; exact rfl) | (go_at_call 9; refine (light_any st c S ms _ (HX.out.below HB.out.1) hmx hmc).mono ?_; rw [HLT.out]; rintro e w2 ⟨rfl, hb⟩; replace HB := keepB HB hb; replace HI := keepA HI hb; clear hb) | (go_at_call 10; refine (awake_any m _ ((HB.out.1.cell (World.block_lt_of_cell? w _ HM.out)).trans HM.out)).mono ?_; rintro e w9 ⟨rfl, hb⟩; replace HB := keepB HB hb; clear hb))
    go_ret
    exact ⟨rfl, HB.out.1⟩
  · have HLT : Hid (lightB (ms.map SegM.v) = true) := Lib.hid (by simpa using hL)
    have hdg : isDig cc = false := (by rcases h with h | h; exact absurd h hL; exact h)
    have HDC : Hid (∀ w, Calls Tryd.prog 19 #[.int .u8 cc] w fun e w' => e = .returned (.bool false) ∧ w = w') := Lib.hid (fun w => by have := digit_any cc w hcc; rw [hdg] at this; exact this)
    clear hdg
    clear hL h
    go_enter Tryd.func6, Tryd.ntmps6
    go_wp2_with (first | (refine wlBox ?_ 25 _ rfl (imA st S ms.length c) rfl ?_; exact rfl; intro gI w1 hg hl ha hb; replace HB := keepB HB hb; have HI := Lib.hid ha; clear ha hb hg hl) | (refine rowLoad ?_ 25 _ rfl gI rfl (cs := imA st S ms.length c) HI.out Tryd.underlying25 rfl infoIm ?_; exact rfl) | (go_at_call 9; refine (light_any st c S ms _ (HX.out.below HB.out.1) hmx hmc).mono ?_; rw [HLT.out]; rintro e w2 ⟨rfl, hb⟩; replace HB := keepB HB hb; replace HI := keepA HI hb; clear hb) | (go_at_call 19; refine (HDC.out _).mono ?_; clear HDC; rintro e w3 ⟨rfl, rfl⟩) | (go_at_call 10; refine (awake_any m _ ((HB.out.1.cell (World.block_lt_of_cell? w _ HM.out)).trans HM.out)).mono ?_; rintro e w9 ⟨rfl, hb⟩; replace HB := keepB HB hb; clear hb))
    go_ret
    exact ⟨rfl, HB.out.1⟩
set_option maxRecDepth 100000 in
set_option maxHeartbeats 4000000 in
theorem finds_off (st c : Nat) (S : Option Addr) (ms : List SegM) (at_ : Int) (cc : Nat) (m : Int) (w : World) (hM : w.cell? ⟨0, 0, none⟩ = some (.int .i64 m)) (hst : st < 4294967296) (hx : RdSgG w S ms) (hmx : ms.length ≤ 9223372036854775807) (hmc : ms.length ≤ c) (hcc : cc < 256) (ha1 : -9223372036854775808 ≤ at_) (ha2 : at_ ≤ 9223372036854775807)
    (hL : lightB (ms.map SegM.v) = true) (hD : isDig cc = true) (T : List UInt8) (hT : textV st (ms.map SegM.v) = T) (h : at_ < 0 ∨ (T.length : Int) ≤ at_) : Calls Tryd.prog 6 #[.agg (imA st S ms.length c), .int .i64 at_, .int .u8 cc] w fun e w' => e = .returned (.bool true) ∧ Below w.heap.size w w' := by
  have HB := startB w
  have HM := Lib.hid hM
  have HX := Lib.hid hx
  have HLT := Lib.hid hL
  have HDC : Hid (∀ w, Calls Tryd.prog 19 #[.int .u8 cc] w fun e w' => e = .returned (.bool true) ∧ w = w') := Lib.hid (fun w => by have := digit_any cc w hcc; rw [hD] at this; exact this)
  have HT := Lib.hid hT
  have HXS : Hid (RdSg w S ms) := Lib.hid (hx.small fun m hm => Nat.le_trans ((light_ok hL).2.1 m.v (List.mem_map_of_mem hm)) (by decide))
  have hz : (bs T).size = T.length := bs_size T
  have hTl : T.length ≤ 100000 := by rw [← hT]; have := text19 st (ms.map SegM.v); have := (light_ok hL).2.2; omega
  clear hM hx hL hD hT
  by_cases h0 : at_ < 0
  · clear h
    go_enter Tryd.func6, Tryd.ntmps6
    go_wp2_with (first | (refine wlBox ?_ 25 _ rfl (imA st S ms.length c) rfl ?_; exact rfl; intro gI w1 hg hl ha hb; replace HB := keepB HB hb; have HI := Lib.hid ha; clear ha hb hg hl) | (refine rowLoad ?_ 25 _ rfl gI rfl (cs := imA st S ms.length c) HI.out Tryd.underlying25 rfl infoIm ?_; exact rfl) | (go_at_call 9; refine (light_any st c S ms _ (HX.out.below HB.out.1) hmx hmc).mono ?_; rw [HLT.out]; rintro e w2 ⟨rfl, hb⟩; replace HB := keepB HB hb; replace HI := keepA HI hb; clear hb) | (go_at_call 19; refine (HDC.out _).mono ?_; clear HDC; rintro e w3 ⟨rfl, rfl⟩) | (go_at_call 11; refine (text_any st c S ms _ hst (HXS.out.below HB.out.1) hmx).mono ?_; rw [HT.out]; rintro e w4 ⟨rfl, hb⟩; replace HB := keepB HB hb; clear hb) | (go_at_call 10; refine (awake_any m _ ((HB.out.1.cell (World.block_lt_of_cell? w _ HM.out)).trans HM.out)).mono ?_; rintro e w9 ⟨rfl, hb⟩; replace HB := keepB HB hb; clear hb))
    go_ret
    exact ⟨rfl, HB.out.1⟩
  · have h1 : (T.length : Int) ≤ at_ := by omega
    clear h
    go_enter Tryd.func6, Tryd.ntmps6
    go_wp2_with (first | (refine wlBox ?_ 25 _ rfl (imA st S ms.length c) rfl ?_; exact rfl; intro gI w1 hg hl ha hb; replace HB := keepB HB hb; have HI := Lib.hid ha; clear ha hb hg hl) | (refine rowLoad ?_ 25 _ rfl gI rfl (cs := imA st S ms.length c) HI.out Tryd.underlying25 rfl infoIm ?_; exact rfl) | (go_at_call 9; refine (light_any st c S ms _ (HX.out.below HB.out.1) hmx hmc).mono ?_; rw [HLT.out]; rintro e w2 ⟨rfl, hb⟩; replace HB := keepB HB hb; replace HI := keepA HI hb; clear hb) | (go_at_call 19; refine (HDC.out _).mono ?_; clear HDC; rintro e w3 ⟨rfl, rfl⟩) | (go_at_call 11; refine (text_any st c S ms _ hst (HXS.out.below HB.out.1) hmx).mono ?_; rw [HT.out]; rintro e w4 ⟨rfl, hb⟩; replace HB := keepB HB hb; clear hb) | (go_at_call 10; refine (awake_any m _ ((HB.out.1.cell (World.block_lt_of_cell? w _ HM.out)).trans HM.out)).mono ?_; rintro e w9 ⟨rfl, hb⟩; replace HB := keepB HB hb; clear hb))
    go_ret
    exact ⟨rfl, HB.out.1⟩
set_option maxRecDepth 100000 in
set_option maxHeartbeats 4000000 in
theorem finds_dig (st c : Nat) (S : Option Addr) (ms : List SegM) (j cc : Nat) (m : Int) (w : World) (hM : w.cell? ⟨0, 0, none⟩ = some (.int .i64 m)) (hst : st < 4294967296) (hx : RdSgG w S ms) (hmx : ms.length ≤ 9223372036854775807) (hmc : ms.length ≤ c) (hcc : cc < 256)
    (hL : lightB (ms.map SegM.v) = true) (hD : isDig cc = true) (T : List UInt8) (hT : textV st (ms.map SegM.v) = T) (x : UInt8) (hj : T[j]? = some x) (h : isDig x.toNat = false ∨ x.toNat = cc) : Calls Tryd.prog 6 #[.agg (imA st S ms.length c), .int .i64 (j : Nat), .int .u8 cc] w fun e w' => e = .returned (.bool true) ∧ Below w.heap.size w w' := by
  have HB := startB w
  have HM := Lib.hid hM
  have HX := Lib.hid hx
  have HLT := Lib.hid hL
  have HDC : Hid (∀ w, Calls Tryd.prog 19 #[.int .u8 cc] w fun e w' => e = .returned (.bool true) ∧ w = w') := Lib.hid (fun w => by have := digit_any cc w hcc; rw [hD] at this; exact this)
  have HT := Lib.hid hT
  have HXS : Hid (RdSg w S ms) := Lib.hid (hx.small fun m hm => Nat.le_trans ((light_ok hL).2.1 m.v (List.mem_map_of_mem hm)) (by decide))
  have hz : (bs T).size = T.length := bs_size T
  have hTl : T.length ≤ 65536 := by rw [← hT]; have := text19 st (ms.map SegM.v); have := (light_ok hL).2.2; omega
  have hjl : j < T.length := (List.getElem?_eq_some_iff.1 hj).1
  have HJ : Hid (j < (bs T).size) := Lib.hid (by rw [hz]; exact hjl)
  have HXJ : Hid (bAt (bs T) j = x.toNat) := Lib.hid (bAt_get hj)
  have eb : ∀ (h : j < (bs T).size), ((bs T)[j]'h).toNat = x.toNat := fun h => by rw [bAt_eq h, bAt_get hj]
  clear hM hx hL hD hT hj
  by_cases h0 : isDig x.toNat = false
  · have HDXC : Hid (∀ w, Calls Tryd.prog 19 #[.int .u8 (x.toNat : Nat)] w fun e w' => e = .returned (.bool false) ∧ w = w') := Lib.hid (fun w => by have := digit_any x.toNat w x.toNat_lt; rw [h0] at this; exact this)
    clear h h0
    go_enter Tryd.func6, Tryd.ntmps6
    go_wp2_with (first | (refine wlBox ?_ 25 _ rfl (imA st S ms.length c) rfl ?_; exact rfl; intro gI w1 hg hl ha hb; replace HB := keepB HB hb; have HI := Lib.hid ha; clear ha hb hg hl) | (refine rowLoad ?_ 25 _ rfl gI rfl (cs := imA st S ms.length c) HI.out Tryd.underlying25 rfl infoIm ?_; exact rfl) | (go_at_call 9; refine (light_any st c S ms _ (HX.out.below HB.out.1) hmx hmc).mono ?_; rw [HLT.out]; rintro e w2 ⟨rfl, hb⟩; replace HB := keepB HB hb; replace HI := keepA HI hb; clear hb) | (go_at_call 19; refine (HDC.out _).mono ?_; clear HDC; rintro e w3 ⟨rfl, rfl⟩) | (go_at_call 19; refine (HDXC.out _).mono ?_; rintro e w3 ⟨rfl, rfl⟩) | (go_at_call 11; refine (text_any st c S ms _ hst (HXS.out.below HB.out.1) hmx).mono ?_; rw [HT.out]; rintro e w4 ⟨rfl, hb⟩; replace HB := keepB HB hb; clear hb) | (go_at_call 10; refine (awake_any m _ ((HB.out.1.cell (World.block_lt_of_cell? w _ HM.out)).trans HM.out)).mono ?_; rintro e w9 ⟨rfl, hb⟩; replace HB := keepB HB hb; clear hb) | (refine strIndex ?_ _ _ _ rfl Tryd.underlying9 (bs T) rfl _ _ rfl j x.toNat rfl HJ.out HXJ.out ?_; exact rfl))
    go_ret
    exact ⟨rfl, HB.out.1⟩
  · have h00 : isDig x.toNat = true := by simpa using h0
    have HDXC : Hid (∀ w, Calls Tryd.prog 19 #[.int .u8 (x.toNat : Nat)] w fun e w' => e = .returned (.bool true) ∧ w = w') := Lib.hid (fun w => by have := digit_any x.toNat w x.toNat_lt; rw [h00] at this; exact this)
    clear h00
    have h1 : x.toNat = cc := by rcases h with h | h; exact absurd h h0; exact h
    have q5 : ((x.toNat : Int) == (cc : Int)) = true := by rw [h1]; exact beq_self_eq_true _
    have q6 : (x.toNat == cc) = true := by rw [h1]; exact beq_self_eq_true _
    clear h h0 h1
    go_enter Tryd.func6, Tryd.ntmps6
    go_wp2_with (first | (refine wlBox ?_ 25 _ rfl (imA st S ms.length c) rfl ?_; exact rfl; intro gI w1 hg hl ha hb; replace HB := keepB HB hb; have HI := Lib.hid ha; clear ha hb hg hl) | (refine rowLoad ?_ 25 _ rfl gI rfl (cs := imA st S ms.length c) HI.out Tryd.underlying25 rfl infoIm ?_; exact rfl) | (go_at_call 9; refine (light_any st c S ms _ (HX.out.below HB.out.1) hmx hmc).mono ?_; rw [HLT.out]; rintro e w2 ⟨rfl, hb⟩; replace HB := keepB HB hb; replace HI := keepA HI hb; clear hb) | (go_at_call 19; refine (HDC.out _).mono ?_; clear HDC; rintro e w3 ⟨rfl, rfl⟩) | (go_at_call 19; refine (HDXC.out _).mono ?_; rintro e w3 ⟨rfl, rfl⟩) | (go_at_call 11; refine (text_any st c S ms _ hst (HXS.out.below HB.out.1) hmx).mono ?_; rw [HT.out]; rintro e w4 ⟨rfl, hb⟩; replace HB := keepB HB hb; clear hb) | (go_at_call 10; refine (awake_any m _ ((HB.out.1.cell (World.block_lt_of_cell? w _ HM.out)).trans HM.out)).mono ?_; rintro e w9 ⟨rfl, hb⟩; replace HB := keepB HB hb; clear hb) | (refine strIndex ?_ _ _ _ rfl Tryd.underlying9 (bs T) rfl _ _ rfl j x.toNat rfl HJ.out HXJ.out ?_; exact rfl))
    go_ret
    exact ⟨rfl, HB.out.1⟩
section
variable {P : Program} {ops : Array Oper} {o : Oper} {a : Act} {w : World} {Q : Exit → Act → World → Prop} {K : Act → World → Prop} {E : Prop} {S : World → Prop}
theorem yieldsAdd (hw : Region.wanted o (yielded ops a.tmps) = true) (t : TypeId) (x y : Operand) (u : TypeId) (ho : o.op = .binOp .add t x y u) (l r : List UInt8) (hx : a.eval x = .string (bs l)) (hy : a.eval y = .string (bs r)) (h : l.length + r.length ≤ 9223372036854775807) (q : List UInt8) (hq : l ++ r = q) : YieldsIf P ops S o (.string (bs q)) a :=
  .inl ⟨hw, fun w _ => by
    subst hq
    unfold execOp
    have hr := run_string_add_sum (P := P) w (bs l) (bs r) (by rw [bs_size, bs_size]; exact h)
    rw [bs_add] at hr
    simp only [ho, hx, hy, eqGuard, ite_self, Sem.run_bind, Sem.run_pure, Result.andThen_ok, binOp_string_add, hr]⟩
theorem yieldsHi (hw : Region.wanted o (yielded ops a.tmps) = true) (t : TypeId) (x hi : Operand) (ho : o.op = .slice t x none (some hi) none) (ht : P.underlying t = some .string) (l : List UInt8) (hx : a.eval x = .string (bs l)) (k : IntKind) (i : Int) (hy : a.eval hi = .int k i) (j : Nat) (hi' : i = (j : Int)) (hj : j ≤ l.length) : YieldsIf P ops S o (.string (bs (l.take j))) a :=
  .inl ⟨hw, fun w _ => by
    subst hi'
    unfold execOp
    have hr := run_slice_string_h (P := P) (w := w) t (bs l) ht k (j : Int) (by omega) (by rw [bs_size]; omega)
    have e : (bs l).extract 0 j = bs (l.take j) := by rw [ext_bs]; rfl
    rw [Int.toNat_natCast, e] at hr
    simp only [ho, hx, hy, Option.map_some, Option.map_none, Sem.run_bind, Sem.run_pure, run_sliceAt_string (P := P) (w := w) t _ _ _ _ ht, hr, Result.andThen_ok]⟩
theorem yieldsLo (hw : Region.wanted o (yielded ops a.tmps) = true) (t : TypeId) (x lo : Operand) (ho : o.op = .slice t x (some lo) none none) (ht : P.underlying t = some .string) (l : List UInt8) (hx : a.eval x = .string (bs l)) (k : IntKind) (i : Int) (hy : a.eval lo = .int k i) (j : Nat) (hi' : i = (j : Int)) (hj : j ≤ l.length) : YieldsIf P ops S o (.string (bs (l.drop j))) a :=
  .inl ⟨hw, fun w _ => by
    subst hi'
    unfold execOp
    have hr := run_slice_string_l (P := P) (w := w) t (bs l) ht k (j : Int) (by omega) (by rw [bs_size]; omega)
    have e : (bs l).extract j (bs l).size = bs (l.drop j) := by rw [ext_bs, bs_size, List.take_of_length_le (by rw [List.length_drop]; exact Nat.le_refl _)]
    rw [Int.toNat_natCast, e] at hr
    simp only [ho, hx, hy, Option.map_some, Option.map_none, Sem.run_bind, Sem.run_pure, run_sliceAt_string (P := P) (w := w) t _ _ _ _ ht, hr, Result.andThen_ok]⟩
theorem rgAllocZ (hw : Region.wanted o (yielded ops a.tmps) = true) (ty : TypeId) (ho : o.op = .alloc ty) (cs : Array Value) (hz : ∀ w, (zeroValue ty).run P w = .ok (.agg cs) w)
    (h : ∀ (g : Nat) (w2 : World), w.heap.size ≤ g → g < w2.heap.size → w2.heap[g]? = some (.cells cs ty (0, 0)) → Below w.heap.size w w2 → K (a.put o.dst (.pointer (some ⟨g, 0, none⟩))) w2) : if Region.wanted o (yielded ops a.tmps) = true then Oper.wp P o a w K Q else E := by
  rw [if_pos hw]
  have hrun : (execOp a.eval o).run P w = .ok (.value (.pointer (some ⟨w.heap.size, 0, none⟩))) (w.alloc (.cells cs ty)) := by
    unfold execOp
    rw [ho]
    simp only [Instr.alloc, Sem.run_bind, hz, Result.andThen_ok]
    rfl
  unfold Oper.wp
  rw [hrun]
  exact h _ _ (Nat.le_refl _) (by simp) (heap_alloc_new _ _) ((Below.refl _ _).alloc (Nat.le_refl _) _)
end
set_option maxRecDepth 100000 in
set_option maxHeartbeats 4000000 in
theorem finds_main (st c : Nat) (S : Option Addr) (ms : List SegM) (j cc : Nat) (m : Int) (w : World) (hM : w.cell? ⟨0, 0, none⟩ = some (.int .i64 m)) (hst : st < 4294967296) (hx : RdSgG w S ms) (hmx : ms.length ≤ 9223372036854775807) (hmc : ms.length ≤ c) (hcc : cc < 256)
    (hL : lightB (ms.map SegM.v) = true) (hD : isDig cc = true) (T : List UInt8) (hT : textV st (ms.map SegM.v) = T) (x : UInt8) (hj : T[j]? = some x) (hDX : isDig x.toNat = true) (hne : x.toNat ≠ cc) : Calls Tryd.prog 6 #[.agg (imA st S ms.length c), .int .i64 (j : Nat), .int .u8 cc] w fun e w' => e = .returned (.bool true) ∧ Below w.heap.size w w' := by
  have HB := startB w
  have HM := Lib.hid hM
  have HX := Lib.hid hx
  have HLT := Lib.hid hL
  have HDC : Hid (∀ w, Calls Tryd.prog 19 #[.int .u8 cc] w fun e w' => e = .returned (.bool true) ∧ w = w') := Lib.hid (fun w => by have := digit_any cc w hcc; rw [hD] at this; exact this)
  have HT := Lib.hid hT
  have HXS : Hid (RdSg w S ms) := Lib.hid (hx.small fun m hm => Nat.le_trans ((light_ok hL).2.1 m.v (List.mem_map_of_mem hm)) (by decide))
  have hz : (bs T).size = T.length := bs_size T
  have hTl : T.length ≤ 65536 := by rw [← hT]; have := text19 st (ms.map SegM.v); have := (light_ok hL).2.2; omega
  have hjl : j < T.length := (List.getElem?_eq_some_iff.1 hj).1
  have HJ : Hid (j < (bs T).size) := Lib.hid (by rw [hz]; exact hjl)
  have HXJ : Hid (bAt (bs T) j = x.toNat) := Lib.hid (bAt_get hj)
  have eb : ∀ (h : j < (bs T).size), ((bs T)[j]'h).toNat = x.toNat := fun h => by rw [bAt_eq h, bAt_get hj]
  have HDXC : Hid (∀ w, Calls Tryd.prog 19 #[.int .u8 (x.toNat : Nat)] w fun e w' => e = .returned (.bool true) ∧ w = w') := Lib.hid (fun w => by have := digit_any x.toNat w x.toNat_lt; rw [hDX] at this; exact this)
  have q5 : ((x.toNat : Int) == (cc : Int)) = false := beq_eq_false_iff_ne.2 (by omega)
  have q6 : (x.toNat == cc) = false := beq_eq_false_iff_ne.2 hne
  have HCC : Hid ((cc : Int) = (((UInt8.ofNat cc).toNat : Nat) : Int)) := Lib.hid (of_nat hcc).symm
  have HS1 : Hid ((T.take j).length + [UInt8.ofNat cc].length ≤ 9223372036854775807) := Lib.hid (by rw [List.length_take]; simp; omega)
  obtain ⟨Z1, hZ1⟩ : ∃ Z1, T.take j ++ [UInt8.ofNat cc] = Z1 := ⟨_, rfl⟩
  have HS2 : Hid (Z1.length + (T.drop (j + 1)).length ≤ 9223372036854775807) := Lib.hid (by rw [← hZ1, List.length_append, List.length_take, List.length_drop]; simp; omega)
  obtain ⟨Z2, hZ2⟩ : ∃ Z2, Z1 ++ T.drop (j + 1) = Z2 := ⟨_, rfl⟩
  have e1 : T.take j ++ [UInt8.ofNat cc] ++ T.drop (j + 1) = T.set j (UInt8.ofNat cc) := by
    rw [List.set_eq_take_append_cons_drop, if_pos hjl]; simp
  rw [hZ1, hZ2] at e1
  have HZ1 := Lib.hid hZ1
  have HZ2 := Lib.hid hZ2
  clear hZ1 hZ2
  have hrv : rightV (ms.map SegM.v) = 0 := by
    refine Classical.byContradiction fun q => ?_
    have : T = [] := by rw [← hT]; unfold textV; rw [if_neg q]
    rw [this] at hjl
    exact absurd hjl (Nat.not_lt_zero _)
  have hfd := text_finds (c := UInt8.ofNat cc) hrv hst (by rw [hT]; exact hTl) (by have := rowsI_len st (ms.map SegM.v); have := (light_ok hL).2.2; omega) (by rw [hT]; exact hj) hDX (by rw [toNat_of hcc]; exact hD) (fun e => hne (by rw [e, toNat_of hcc]))
  rw [hT] at hfd
  obtain ⟨N, hN⟩ : ∃ N, (parseV (bs (T.set j (UInt8.ofNat cc)))).2.2.1 = N := ⟨_, rfl⟩
  obtain ⟨F, hF⟩ : ∃ F, (parseV (bs (T.set j (UInt8.ofNat cc)))).2.2.2 = F := ⟨_, rfl⟩
  rw [hN, hF] at hfd
  obtain ⟨hf1, hf2⟩ := hfd
  have HPA : Hid (∀ w', w'.cell? ⟨0, 0, none⟩ = some (.int .i64 m) → Calls Tryd.prog 15 #[.string (bs Z2)] w' fun e w'' => (∃ r1 S2 n2 c2, e = .returned (.tuple #[.agg (imA r1 S2 n2 c2), .int .i64 (N : Nat), .int .i64 (F : Nat)])) ∧ Below w'.heap.size w' w'') := Lib.hid (fun w' hw' => by
    rw [e1]
    refine (parseW_any (bs (T.set j (UInt8.ofNat cc))) m w' hw' (by rw [bs_size, List.length_set]; omega)).mono ?_
    rintro e w'' ⟨⟨S2, c2, ms2, rfl, _, _, _⟩, hb⟩
    rw [hN, hF]
    exact ⟨⟨_, _, _, _, rfl⟩, hb⟩)
  have q7 : ((F : Int) != 0) = true := bne_iff_ne.2 (by omega)
  have q8 : decide (0 < N) = true := decide_eq_true hf2
  have w1 : IntKind.i64.wrap ((j : Int) + 1) = (j : Int) + 1 := by rw [IntKind.wrap_i64]; omega
  clear hM hx hL hD hT hj e1 hrv hN hF hf1 hDX hne
  go_enter Tryd.func6, Tryd.ntmps6
  go_upto_region 6 with (first | (refine wlBox ?_ 25 _ rfl (imA st S ms.length c) rfl ?_; exact rfl; intro gI w1 hg hl ha hb; replace HB := keepB HB hb; have HI := Lib.hid ha; clear ha hb hg hl) | (refine rowLoad ?_ 25 _ rfl gI rfl (cs := imA st S ms.length c) HI.out Tryd.underlying25 rfl infoIm ?_; exact rfl) | (go_at_call 9; refine (light_any st c S ms _ (HX.out.below HB.out.1) hmx hmc).mono ?_; rw [HLT.out]; rintro e w2 ⟨rfl, hb⟩; replace HB := keepB HB hb; replace HI := keepA HI hb; clear hb) | (go_at_call 19; refine (HDC.out _).mono ?_; clear HDC; rintro e w3 ⟨rfl, rfl⟩) | (go_at_call 19; refine (HDXC.out _).mono ?_; rintro e w3 ⟨rfl, rfl⟩) | (go_at_call 11; refine (text_any st c S ms _ hst (HXS.out.below HB.out.1) hmx).mono ?_; rw [HT.out]; rintro e w4 ⟨rfl, hb⟩; replace HB := keepB HB hb; clear hb) | (refine strIndex ?_ _ _ _ rfl Tryd.underlying9 (bs T) rfl _ _ rfl j x.toNat rfl HJ.out HXJ.out ?_; exact rfl))
  replace HB := keepB1 HB
  refine rgStart (S := (fun _ => True)) (n := 21) #[false, false, false, false, false, false, false, false, false, false, false, false, false, false, false, false, false, false, false, false, false] (by kernel_rfl) rfl rfl trivial (fun hHeld => ?_)
  refine rgTake (i := 0) (N := some 46) (oi := { dst := some 46, op := Op.move (Operand.tmp 7), type := 9, pos := "law.go:90", after := #[], guard := none }) (v := ?_) #[true, false, false, false, false, false, false, false, false, false, false, false, false, false, false, false, false, false, false, false, false] rfl rfl (by kernel_rfl) (fun _ _ _ h => h) (Or.inl ⟨by rfl, ?_⟩) hHeld ?_
  rotate_left
  · intro w' hSw; (try dsimp only at hSw); skip; go_simp; try with_reducible rfl
  simp only [Act.put, List.setIfInBounds_toArray, List.set_cons_zero, List.set_cons_succ]
  refine rgTake (i := 1) (N := some 47) (oi := { dst := some 47, op := Op.move (Operand.tmp 1), type := 3, pos := "law.go:90", after := #[], guard := none }) (v := ?_) #[true, true, false, false, false, false, false, false, false, false, false, false, false, false, false, false, false, false, false, false, false] rfl rfl (by kernel_rfl) (fun _ _ _ h => h) (Or.inl ⟨by rfl, ?_⟩) hHeld ?_
  rotate_left
  · intro w' hSw; (try dsimp only at hSw); skip; go_simp; try with_reducible rfl
  simp only [Act.put, List.setIfInBounds_toArray, List.set_cons_zero, List.set_cons_succ]
  refine rgTake (i := 2) (N := some 48) (oi := { dst := some 48, op := Op.slice 9 (Operand.tmp 46) none (some (Operand.tmp 47)) none, type := 9, pos := "law.go:90", after := #[{ on := 0, ground := Ground.data }, { on := 1, ground := Ground.data }], guard := none }) (v := _) #[true, true, true, false, false, false, false, false, false, false, false, false, false, false, false, false, false, false, false, false, false] rfl rfl (by kernel_rfl) (fun _ _ _ h => h) (yieldsHi (by rfl) _ _ _ rfl Tryd.underlying9 T rfl _ _ rfl j rfl (Nat.le_of_lt hjl)) hHeld ?_
  simp only [Act.put, List.setIfInBounds_toArray, List.set_cons_zero, List.set_cons_succ]
  refine rgTake (i := 3) (N := some 49) (oi := { dst := some 49, op := Op.move (Operand.tmp 2), type := 5, pos := "law.go:90", after := #[], guard := none }) (v := ?_) #[true, true, true, true, false, false, false, false, false, false, false, false, false, false, false, false, false, false, false, false, false] rfl rfl (by kernel_rfl) (fun _ _ _ h => h) (Or.inl ⟨by rfl, ?_⟩) hHeld ?_
  rotate_left
  · intro w' hSw; (try dsimp only at hSw); skip; go_simp; try with_reducible rfl
  simp only [Act.put, List.setIfInBounds_toArray, List.set_cons_zero, List.set_cons_succ]
  refine rgTake (i := 7) (N := some 53) (oi := { dst := some 53, op := Op.move (Operand.tmp 7), type := 9, pos := "law.go:90", after := #[], guard := none }) (v := ?_) #[true, true, true, true, false, false, false, true, false, false, false, false, false, false, false, false, false, false, false, false, false] rfl rfl (by kernel_rfl) (fun _ _ _ h => h) (Or.inl ⟨by rfl, ?_⟩) hHeld ?_
  rotate_left
  · intro w' hSw; (try dsimp only at hSw); skip; go_simp; try with_reducible rfl
  simp only [Act.put, List.setIfInBounds_toArray, List.set_cons_zero, List.set_cons_succ]
  refine rgTake (i := 8) (N := some 54) (oi := { dst := some 54, op := Op.move (Operand.tmp 1), type := 3, pos := "law.go:90", after := #[], guard := none }) (v := ?_) #[true, true, true, true, false, false, false, true, true, false, false, false, false, false, false, false, false, false, false, false, false] rfl rfl (by kernel_rfl) (fun _ _ _ h => h) (Or.inl ⟨by rfl, ?_⟩) hHeld ?_
  rotate_left
  · intro w' hSw; (try dsimp only at hSw); skip; go_simp; try with_reducible rfl
  simp only [Act.put, List.setIfInBounds_toArray, List.set_cons_zero, List.set_cons_succ]
  refine rgTake (i := 9) (N := some 55) (oi := { dst := some 55, op := Op.binOp BinOp.add 3 (Operand.tmp 54) (Operand.const (Value.int IntKind.i64 1)) 3, type := 3, pos := "law.go:90", after := #[{ on := 8, ground := Ground.data }], guard := none }) (v := ?_) #[true, true, true, true, false, false, false, true, true, true, false, false, false, false, false, false, false, false, false, false, false] rfl rfl (by kernel_rfl) (fun _ _ _ h => h) (Or.inl ⟨by rfl, ?_⟩) hHeld ?_
  rotate_left
  · intro w' hSw; (try dsimp only at hSw); skip; go_simp; try with_reducible rfl
  simp only [Act.put, List.setIfInBounds_toArray, List.set_cons_zero, List.set_cons_succ]
  refine rgTake (i := 10) (N := some 56) (oi := { dst := some 56, op := Op.slice 9 (Operand.tmp 53) (some (Operand.tmp 55)) none none, type := 9, pos := "law.go:90", after := #[{ on := 7, ground := Ground.data }, { on := 9, ground := Ground.data }], guard := none }) (v := _) #[true, true, true, true, false, false, false, true, true, true, true, false, false, false, false, false, false, false, false, false, false] rfl rfl (by kernel_rfl) (fun _ _ _ h => h) (yieldsLo (by rfl) _ _ _ rfl Tryd.underlying9 T rfl _ _ rfl (j + 1) (by first | rfl | omega) hjl) hHeld ?_
  simp only [Act.put, List.setIfInBounds_toArray, List.set_cons_zero, List.set_cons_succ]
  refine rgTwo (i := 4) (j := 17) (Ni := some 50) (Nj := some 8) (oi := { dst := some 50, op := Op.buildSlice 26 1 #[(0, Operand.tmp 49)], type := 26, pos := "law.go:90", after := #[{ on := 3, ground := Ground.data }], guard := none }) (oj := { dst := some 8, op := Op.alloc 25, type := 0, pos := "law.go:90", after := #[], guard := none }) #[true, true, true, true, true, false, false, true, true, true, true, false, false, false, false, false, false, false, false, false, false] #[true, true, true, true, false, false, false, true, true, true, true, false, false, false, false, false, false, true, false, false, false] rfl rfl rfl rfl (by kernel_rfl) (fun K hK => ?_) (fun K hK => ?_)
  · refine rgLit (by rfl) 26 1 _ rfl #[.int .u8 cc] 5 (fun _ => by kernel_rfl) ?_; intro g wa hg1 hg2 ha hb; replace HB := keepB HB hb; have HA := Lib.hid ha; (try replace HN := keepA HN hb); clear ha hb hg1 hg2
    refine hK.out _ _ trivial (fun hHeld => ?_)
    (try simp only [Act.put, List.setIfInBounds_toArray, List.set_cons_zero, List.set_cons_succ])
    clear hK K
    refine rgTwo (i := 5) (j := 17) (Ni := some 51) (Nj := some 8) (oi := { dst := some 51, op := Op.convert 26 9 (Operand.tmp 50), type := 9, pos := "law.go:90", after := #[{ on := 4, ground := Ground.data }], guard := none }) (oj := { dst := some 8, op := Op.alloc 25, type := 0, pos := "law.go:90", after := #[], guard := none }) #[true, true, true, true, true, true, false, true, true, true, true, false, false, false, false, false, false, false, false, false, false] #[true, true, true, true, true, false, false, true, true, true, true, false, false, false, false, false, false, true, false, false, false] rfl rfl rfl rfl (by kernel_rfl) (fun K hK => ?_) (fun K hK => ?_)
    · refine rgBack (by rfl) _ _ 5 _ rfl Tryd.underlying26 Tryd.underlying5 Tryd.underlying9 g 0 1 1 rfl [UInt8.ofNat cc] rfl HA.out (fun i hi => by have hi2 : i < 1 := hi; match i, hi2 with | 0, _ => exact congrArg (fun v => some (Value.int .u8 v)) HCC.out) ?_
      refine hK.out _ _ trivial (fun hHeld => ?_)
      (try simp only [Act.put, List.setIfInBounds_toArray, List.set_cons_zero, List.set_cons_succ])
      clear hK K
      refine rgTake (i := 6) (N := some 52) (oi := { dst := some 52, op := Op.binOp BinOp.add 9 (Operand.tmp 48) (Operand.tmp 51) 9, type := 9, pos := "law.go:90", after := #[{ on := 2, ground := Ground.data }, { on := 5, ground := Ground.data }], guard := none }) (v := _) #[true, true, true, true, true, true, true, true, true, true, true, false, false, false, false, false, false, false, false, false, false] rfl rfl (by kernel_rfl) (fun _ _ _ h => h) (yieldsAdd (by rfl) _ _ _ _ rfl (T.take j) [UInt8.ofNat cc] rfl rfl HS1.out Z1 HZ1.out) hHeld ?_
      simp only [Act.put, List.setIfInBounds_toArray, List.set_cons_zero, List.set_cons_succ]
      refine rgTake (i := 11) (N := some 57) (oi := { dst := some 57, op := Op.binOp BinOp.add 9 (Operand.tmp 52) (Operand.tmp 56) 9, type := 9, pos := "law.go:90", after := #[{ on := 6, ground := Ground.data }, { on := 10, ground := Ground.data }], guard := none }) (v := _) #[true, true, true, true, true, true, true, true, true, true, true, true, false, false, false, false, false, false, false, false, false] rfl rfl (by kernel_rfl) (fun _ _ _ h => h) (yieldsAdd (by rfl) _ _ _ _ rfl Z1 (T.drop (j + 1)) rfl rfl HS2.out Z2 HZ2.out) hHeld ?_
      simp only [Act.put, List.setIfInBounds_toArray, List.set_cons_zero, List.set_cons_succ]
      refine rgTwo (i := 12) (j := 17) (Ni := some 58) (Nj := some 8) (oi := { dst := some 58, op := Op.call { callee := Callee.value (Operand.func 15), args := #[Operand.tmp 57], argTypes := #[9] }, type := 33, pos := "law.go:90", after := #[{ on := 11, ground := Ground.data }], guard := none }) (oj := { dst := some 8, op := Op.alloc 25, type := 0, pos := "law.go:90", after := #[], guard := none }) #[true, true, true, true, true, true, true, true, true, true, true, true, true, false, false, false, false, false, false, false, false] #[true, true, true, true, true, true, true, true, true, true, true, true, false, false, false, false, false, true, false, false, false] rfl rfl rfl rfl (by kernel_rfl) (fun K hK => ?_) (fun K hK => ?_)
      · go_simp
        (go_at_call 15; refine (HPA.out _ ((HB.out.1.cell (World.block_lt_of_cell? w _ HM.out)).trans HM.out)).mono ?_; rintro e wc ⟨⟨r1, S2, n2, c2, rfl⟩, hb⟩; replace HB := keepB HB hb; (try replace HN := keepA HN hb); clear hb)
        refine hK.out _ _ trivial (fun hHeld => ?_)
        (try simp only [Act.put, List.setIfInBounds_toArray, List.set_cons_zero, List.set_cons_succ])
        clear hK K
        refine rgTake (i := 13) (N := some 45) (oi := { dst := some 45, op := Op.move (Operand.tmp 58), type := 33, pos := "law.go:90", after := #[{ on := 12, ground := Ground.data }], guard := none }) (v := ?_) #[true, true, true, true, true, true, true, true, true, true, true, true, true, true, false, false, false, false, false, false, false] rfl rfl (by kernel_rfl) (fun _ _ _ h => h) (Or.inl ⟨by rfl, ?_⟩) hHeld ?_
        rotate_left
        · intro w' hSw; (try dsimp only at hSw); skip; go_simp; try with_reducible rfl
        simp only [Act.put, List.setIfInBounds_toArray, List.set_cons_zero, List.set_cons_succ]
        refine rgTake (i := 14) (N := some 59) (oi := { dst := some 59, op := Op.extract (Operand.tmp 45) 0, type := 25, pos := "law.go:90", after := #[{ on := 13, ground := Ground.data }], guard := none }) (v := ?_) #[true, true, true, true, true, true, true, true, true, true, true, true, true, true, true, false, false, false, false, false, false] rfl rfl (by kernel_rfl) (fun _ _ _ h => h) (Or.inl ⟨by rfl, ?_⟩) hHeld ?_
        rotate_left
        · intro w' hSw; (try dsimp only at hSw); skip; go_simp; try with_reducible rfl
        simp only [Act.put, List.setIfInBounds_toArray, List.set_cons_zero, List.set_cons_succ]
        refine rgTake (i := 15) (N := some 60) (oi := { dst := some 60, op := Op.extract (Operand.tmp 45) 1, type := 3, pos := "law.go:90", after := #[{ on := 13, ground := Ground.data }, { on := 18, ground := Ground.gcOnly Departure.lateStores }], guard := none }) (v := ?_) #[true, true, true, true, true, true, true, true, true, true, true, true, true, true, true, true, false, false, false, false, false] rfl rfl (by kernel_rfl) (fun _ _ _ h => h) (Or.inl ⟨by rfl, ?_⟩) hHeld ?_
        rotate_left
        · intro w' hSw; (try dsimp only at hSw); skip; go_simp; try with_reducible rfl
        simp only [Act.put, List.setIfInBounds_toArray, List.set_cons_zero, List.set_cons_succ]
        refine rgTake (i := 16) (N := some 61) (oi := { dst := some 61, op := Op.extract (Operand.tmp 45) 2, type := 32, pos := "law.go:90", after := #[{ on := 13, ground := Ground.data }, { on := 19, ground := Ground.gcOnly Departure.lateStores }], guard := none }) (v := ?_) #[true, true, true, true, true, true, true, true, true, true, true, true, true, true, true, true, true, false, false, false, false] rfl rfl (by kernel_rfl) (fun _ _ _ h => h) (Or.inl ⟨by rfl, ?_⟩) hHeld ?_
        rotate_left
        · intro w' hSw; (try dsimp only at hSw); skip; go_simp; try with_reducible rfl
        simp only [Act.put, List.setIfInBounds_toArray, List.set_cons_zero, List.set_cons_succ]
        refine rgCall (i := 17) (N := some 8) (oi := { dst := some 8, op := Op.alloc 25, type := 0, pos := "law.go:90", after := #[], guard := none }) #[true, true, true, true, true, true, true, true, true, true, true, true, true, true, true, true, true, true, false, false, false] rfl rfl (by kernel_rfl) (fun K hK => ?_)
        refine rgAllocZ (by rfl) 25 rfl (imA 0 none 0 0) zeroIm ?_; intro gN wb hg1 hg2 ha hb; have HGN : Hid (w.heap.size ≤ gN) := Lib.hid (Nat.le_trans HB.out.2 hg1); replace HB := keepB HB hb; have HN := Lib.hid ha; (try replace HA := keepA HA hb); clear ha hb hg1 hg2
        refine hK.out _ _ trivial (fun hHeld => ?_)
        (try simp only [Act.put, List.setIfInBounds_toArray, List.set_cons_zero, List.set_cons_succ])
        clear hK K
        refine rgCall (i := 18) (N := none) (oi := { dst := none, op := Op.store 25 (Operand.tmp 8) (Operand.tmp 59), type := 0, pos := "law.go:90", after := #[{ on := 17, ground := Ground.data }, { on := 14, ground := Ground.data }, { on := 12, ground := Ground.chain }, { on := 0, ground := Ground.phase }, { on := 1, ground := Ground.phase }, { on := 2, ground := Ground.phase }, { on := 3, ground := Ground.phase }, { on := 4, ground := Ground.phase }, { on := 5, ground := Ground.phase }, { on := 6, ground := Ground.phase }, { on := 7, ground := Ground.phase }, { on := 8, ground := Ground.phase }, { on := 9, ground := Ground.phase }, { on := 10, ground := Ground.phase }, { on := 11, ground := Ground.phase }, { on := 12, ground := Ground.phase }, { on := 13, ground := Ground.phase }, { on := 14, ground := Ground.phase }, { on := 15, ground := Ground.textOnly Departure.lateStores }, { on := 16, ground := Ground.textOnly Departure.lateStores }, { on := 17, ground := Ground.phase }], guard := none }) #[true, true, true, true, true, true, true, true, true, true, true, true, true, true, true, true, true, true, true, false, false] rfl rfl (by kernel_rfl) (fun K hK => ?_)
        refine rgStore (by rfl) 25 _ _ rfl gN rfl (imA r1 S2 n2 c2) rfl HN.out infoIm rfl (imA_one _ _ _ _) ?_; intro wd ha ho; replace HB := keepBo HB HGN.out ho; clear ha ho
        refine hK.out _ _ trivial (fun hHeld => ?_)
        clear hK K
        refine rgTake (i := 19) (N := some 9) (oi := { dst := some 9, op := Op.assign (Operand.tmp 60), type := 3, pos := "law.go:90", after := #[{ on := 15, ground := Ground.data }, { on := 18, ground := Ground.chain }, { on := 0, ground := Ground.phase }, { on := 1, ground := Ground.phase }, { on := 2, ground := Ground.phase }, { on := 3, ground := Ground.phase }, { on := 4, ground := Ground.phase }, { on := 5, ground := Ground.phase }, { on := 6, ground := Ground.phase }, { on := 7, ground := Ground.phase }, { on := 8, ground := Ground.phase }, { on := 9, ground := Ground.phase }, { on := 10, ground := Ground.phase }, { on := 11, ground := Ground.phase }, { on := 12, ground := Ground.phase }, { on := 13, ground := Ground.phase }, { on := 14, ground := Ground.phase }, { on := 15, ground := Ground.phase }, { on := 16, ground := Ground.textOnly Departure.lateStores }, { on := 17, ground := Ground.phase }, { on := 18, ground := Ground.phase }], guard := none }) (v := ?_) #[true, true, true, true, true, true, true, true, true, true, true, true, true, true, true, true, true, true, true, true, false] rfl rfl (by kernel_rfl) (fun _ _ _ h => h) (Or.inl ⟨by rfl, ?_⟩) hHeld ?_
        rotate_left
        · intro w' hSw; (try dsimp only at hSw); skip; go_simp; try with_reducible rfl
        simp only [Act.put, List.setIfInBounds_toArray, List.set_cons_zero, List.set_cons_succ]
        refine rgTake (i := 20) (N := some 10) (oi := { dst := some 10, op := Op.assign (Operand.tmp 61), type := 32, pos := "law.go:90", after := #[{ on := 16, ground := Ground.data }, { on := 19, ground := Ground.chain }, { on := 0, ground := Ground.phase }, { on := 1, ground := Ground.phase }, { on := 2, ground := Ground.phase }, { on := 3, ground := Ground.phase }, { on := 4, ground := Ground.phase }, { on := 5, ground := Ground.phase }, { on := 6, ground := Ground.phase }, { on := 7, ground := Ground.phase }, { on := 8, ground := Ground.phase }, { on := 9, ground := Ground.phase }, { on := 10, ground := Ground.phase }, { on := 11, ground := Ground.phase }, { on := 12, ground := Ground.phase }, { on := 13, ground := Ground.phase }, { on := 14, ground := Ground.phase }, { on := 15, ground := Ground.phase }, { on := 16, ground := Ground.phase }, { on := 17, ground := Ground.phase }, { on := 18, ground := Ground.phase }, { on := 19, ground := Ground.phase }], guard := none }) (v := ?_) #[true, true, true, true, true, true, true, true, true, true, true, true, true, true, true, true, true, true, true, true, true] rfl rfl (by kernel_rfl) (fun _ _ _ h => h) (Or.inl ⟨by rfl, ?_⟩) hHeld ?_
        rotate_left
        · intro w' hSw; (try dsimp only at hSw); skip; go_simp; try with_reducible rfl
        simp only [Act.put, List.setIfInBounds_toArray, List.set_cons_zero, List.set_cons_succ]
        refine rgDone (by kernel_rfl) ?_ _
        go_wp2_with (go_at_call 10; refine (awake_any m _ ((HB.out.1.cell (World.block_lt_of_cell? w _ HM.out)).trans HM.out)).mono ?_; rintro e w9 ⟨rfl, hb⟩; replace HB := keepB HB hb; clear hb); go_ret; exact ⟨rfl, HB.out.1⟩
      · refine rgAllocZ (by rfl) 25 rfl (imA 0 none 0 0) zeroIm ?_; intro gN wb hg1 hg2 ha hb; have HGN : Hid (w.heap.size ≤ gN) := Lib.hid (Nat.le_trans HB.out.2 hg1); replace HB := keepB HB hb; have HN := Lib.hid ha; (try replace HA := keepA HA hb); clear ha hb hg1 hg2
        refine hK.out _ _ trivial (fun hHeld => ?_)
        (try simp only [Act.put, List.setIfInBounds_toArray, List.set_cons_zero, List.set_cons_succ])
        clear hK K
        refine rgCall (i := 12) (N := some 58) (oi := { dst := some 58, op := Op.call { callee := Callee.value (Operand.func 15), args := #[Operand.tmp 57], argTypes := #[9] }, type := 33, pos := "law.go:90", after := #[{ on := 11, ground := Ground.data }], guard := none }) #[true, true, true, true, true, true, true, true, true, true, true, true, true, false, false, false, false, true, false, false, false] rfl rfl (by kernel_rfl) (fun K hK => ?_)
        go_simp
        (go_at_call 15; refine (HPA.out _ ((HB.out.1.cell (World.block_lt_of_cell? w _ HM.out)).trans HM.out)).mono ?_; rintro e wc ⟨⟨r1, S2, n2, c2, rfl⟩, hb⟩; replace HB := keepB HB hb; (try replace HN := keepA HN hb); clear hb)
        refine hK.out _ _ trivial (fun hHeld => ?_)
        (try simp only [Act.put, List.setIfInBounds_toArray, List.set_cons_zero, List.set_cons_succ])
        clear hK K
        refine rgTake (i := 13) (N := some 45) (oi := { dst := some 45, op := Op.move (Operand.tmp 58), type := 33, pos := "law.go:90", after := #[{ on := 12, ground := Ground.data }], guard := none }) (v := ?_) #[true, true, true, true, true, true, true, true, true, true, true, true, true, true, false, false, false, true, false, false, false] rfl rfl (by kernel_rfl) (fun _ _ _ h => h) (Or.inl ⟨by rfl, ?_⟩) hHeld ?_
        rotate_left
        · intro w' hSw; (try dsimp only at hSw); skip; go_simp; try with_reducible rfl
        simp only [Act.put, List.setIfInBounds_toArray, List.set_cons_zero, List.set_cons_succ]
        refine rgTake (i := 14) (N := some 59) (oi := { dst := some 59, op := Op.extract (Operand.tmp 45) 0, type := 25, pos := "law.go:90", after := #[{ on := 13, ground := Ground.data }], guard := none }) (v := ?_) #[true, true, true, true, true, true, true, true, true, true, true, true, true, true, true, false, false, true, false, false, false] rfl rfl (by kernel_rfl) (fun _ _ _ h => h) (Or.inl ⟨by rfl, ?_⟩) hHeld ?_
        rotate_left
        · intro w' hSw; (try dsimp only at hSw); skip; go_simp; try with_reducible rfl
        simp only [Act.put, List.setIfInBounds_toArray, List.set_cons_zero, List.set_cons_succ]
        refine rgTake (i := 15) (N := some 60) (oi := { dst := some 60, op := Op.extract (Operand.tmp 45) 1, type := 3, pos := "law.go:90", after := #[{ on := 13, ground := Ground.data }, { on := 18, ground := Ground.gcOnly Departure.lateStores }], guard := none }) (v := ?_) #[true, true, true, true, true, true, true, true, true, true, true, true, true, true, true, true, false, true, false, false, false] rfl rfl (by kernel_rfl) (fun _ _ _ h => h) (Or.inl ⟨by rfl, ?_⟩) hHeld ?_
        rotate_left
        · intro w' hSw; (try dsimp only at hSw); skip; go_simp; try with_reducible rfl
        simp only [Act.put, List.setIfInBounds_toArray, List.set_cons_zero, List.set_cons_succ]
        refine rgTake (i := 16) (N := some 61) (oi := { dst := some 61, op := Op.extract (Operand.tmp 45) 2, type := 32, pos := "law.go:90", after := #[{ on := 13, ground := Ground.data }, { on := 19, ground := Ground.gcOnly Departure.lateStores }], guard := none }) (v := ?_) #[true, true, true, true, true, true, true, true, true, true, true, true, true, true, true, true, true, true, false, false, false] rfl rfl (by kernel_rfl) (fun _ _ _ h => h) (Or.inl ⟨by rfl, ?_⟩) hHeld ?_
        rotate_left
        · intro w' hSw; (try dsimp only at hSw); skip; go_simp; try with_reducible rfl
        simp only [Act.put, List.setIfInBounds_toArray, List.set_cons_zero, List.set_cons_succ]
        refine rgCall (i := 18) (N := none) (oi := { dst := none, op := Op.store 25 (Operand.tmp 8) (Operand.tmp 59), type := 0, pos := "law.go:90", after := #[{ on := 17, ground := Ground.data }, { on := 14, ground := Ground.data }, { on := 12, ground := Ground.chain }, { on := 0, ground := Ground.phase }, { on := 1, ground := Ground.phase }, { on := 2, ground := Ground.phase }, { on := 3, ground := Ground.phase }, { on := 4, ground := Ground.phase }, { on := 5, ground := Ground.phase }, { on := 6, ground := Ground.phase }, { on := 7, ground := Ground.phase }, { on := 8, ground := Ground.phase }, { on := 9, ground := Ground.phase }, { on := 10, ground := Ground.phase }, { on := 11, ground := Ground.phase }, { on := 12, ground := Ground.phase }, { on := 13, ground := Ground.phase }, { on := 14, ground := Ground.phase }, { on := 15, ground := Ground.textOnly Departure.lateStores }, { on := 16, ground := Ground.textOnly Departure.lateStores }, { on := 17, ground := Ground.phase }], guard := none }) #[true, true, true, true, true, true, true, true, true, true, true, true, true, true, true, true, true, true, true, false, false] rfl rfl (by kernel_rfl) (fun K hK => ?_)
        refine rgStore (by rfl) 25 _ _ rfl gN rfl (imA r1 S2 n2 c2) rfl HN.out infoIm rfl (imA_one _ _ _ _) ?_; intro wd ha ho; replace HB := keepBo HB HGN.out ho; clear ha ho
        refine hK.out _ _ trivial (fun hHeld => ?_)
        clear hK K
        refine rgTake (i := 19) (N := some 9) (oi := { dst := some 9, op := Op.assign (Operand.tmp 60), type := 3, pos := "law.go:90", after := #[{ on := 15, ground := Ground.data }, { on := 18, ground := Ground.chain }, { on := 0, ground := Ground.phase }, { on := 1, ground := Ground.phase }, { on := 2, ground := Ground.phase }, { on := 3, ground := Ground.phase }, { on := 4, ground := Ground.phase }, { on := 5, ground := Ground.phase }, { on := 6, ground := Ground.phase }, { on := 7, ground := Ground.phase }, { on := 8, ground := Ground.phase }, { on := 9, ground := Ground.phase }, { on := 10, ground := Ground.phase }, { on := 11, ground := Ground.phase }, { on := 12, ground := Ground.phase }, { on := 13, ground := Ground.phase }, { on := 14, ground := Ground.phase }, { on := 15, ground := Ground.phase }, { on := 16, ground := Ground.textOnly Departure.lateStores }, { on := 17, ground := Ground.phase }, { on := 18, ground := Ground.phase }], guard := none }) (v := ?_) #[true, true, true, true, true, true, true, true, true, true, true, true, true, true, true, true, true, true, true, true, false] rfl rfl (by kernel_rfl) (fun _ _ _ h => h) (Or.inl ⟨by rfl, ?_⟩) hHeld ?_
        rotate_left
        · intro w' hSw; (try dsimp only at hSw); skip; go_simp; try with_reducible rfl
        simp only [Act.put, List.setIfInBounds_toArray, List.set_cons_zero, List.set_cons_succ]
        refine rgTake (i := 20) (N := some 10) (oi := { dst := some 10, op := Op.assign (Operand.tmp 61), type := 32, pos := "law.go:90", after := #[{ on := 16, ground := Ground.data }, { on := 19, ground := Ground.chain }, { on := 0, ground := Ground.phase }, { on := 1, ground := Ground.phase }, { on := 2, ground := Ground.phase }, { on := 3, ground := Ground.phase }, { on := 4, ground := Ground.phase }, { on := 5, ground := Ground.phase }, { on := 6, ground := Ground.phase }, { on := 7, ground := Ground.phase }, { on := 8, ground := Ground.phase }, { on := 9, ground := Ground.phase }, { on := 10, ground := Ground.phase }, { on := 11, ground := Ground.phase }, { on := 12, ground := Ground.phase }, { on := 13, ground := Ground.phase }, { on := 14, ground := Ground.phase }, { on := 15, ground := Ground.phase }, { on := 16, ground := Ground.phase }, { on := 17, ground := Ground.phase }, { on := 18, ground := Ground.phase }, { on := 19, ground := Ground.phase }], guard := none }) (v := ?_) #[true, true, true, true, true, true, true, true, true, true, true, true, true, true, true, true, true, true, true, true, true] rfl rfl (by kernel_rfl) (fun _ _ _ h => h) (Or.inl ⟨by rfl, ?_⟩) hHeld ?_
        rotate_left
        · intro w' hSw; (try dsimp only at hSw); skip; go_simp; try with_reducible rfl
        simp only [Act.put, List.setIfInBounds_toArray, List.set_cons_zero, List.set_cons_succ]
        refine rgDone (by kernel_rfl) ?_ _
        go_wp2_with (go_at_call 10; refine (awake_any m _ ((HB.out.1.cell (World.block_lt_of_cell? w _ HM.out)).trans HM.out)).mono ?_; rintro e w9 ⟨rfl, hb⟩; replace HB := keepB HB hb; clear hb); go_ret; exact ⟨rfl, HB.out.1⟩
    · refine rgAllocZ (by rfl) 25 rfl (imA 0 none 0 0) zeroIm ?_; intro gN wb hg1 hg2 ha hb; have HGN : Hid (w.heap.size ≤ gN) := Lib.hid (Nat.le_trans HB.out.2 hg1); replace HB := keepB HB hb; have HN := Lib.hid ha; (try replace HA := keepA HA hb); clear ha hb hg1 hg2
      refine hK.out _ _ trivial (fun hHeld => ?_)
      (try simp only [Act.put, List.setIfInBounds_toArray, List.set_cons_zero, List.set_cons_succ])
      clear hK K
      refine rgCall (i := 5) (N := some 51) (oi := { dst := some 51, op := Op.convert 26 9 (Operand.tmp 50), type := 9, pos := "law.go:90", after := #[{ on := 4, ground := Ground.data }], guard := none }) #[true, true, true, true, true, true, false, true, true, true, true, false, false, false, false, false, false, true, false, false, false] rfl rfl (by kernel_rfl) (fun K hK => ?_)
      refine rgBack (by rfl) _ _ 5 _ rfl Tryd.underlying26 Tryd.underlying5 Tryd.underlying9 g 0 1 1 rfl [UInt8.ofNat cc] rfl HA.out (fun i hi => by have hi2 : i < 1 := hi; match i, hi2 with | 0, _ => exact congrArg (fun v => some (Value.int .u8 v)) HCC.out) ?_
      refine hK.out _ _ trivial (fun hHeld => ?_)
      (try simp only [Act.put, List.setIfInBounds_toArray, List.set_cons_zero, List.set_cons_succ])
      clear hK K
      refine rgTake (i := 6) (N := some 52) (oi := { dst := some 52, op := Op.binOp BinOp.add 9 (Operand.tmp 48) (Operand.tmp 51) 9, type := 9, pos := "law.go:90", after := #[{ on := 2, ground := Ground.data }, { on := 5, ground := Ground.data }], guard := none }) (v := _) #[true, true, true, true, true, true, true, true, true, true, true, false, false, false, false, false, false, true, false, false, false] rfl rfl (by kernel_rfl) (fun _ _ _ h => h) (yieldsAdd (by rfl) _ _ _ _ rfl (T.take j) [UInt8.ofNat cc] rfl rfl HS1.out Z1 HZ1.out) hHeld ?_
      simp only [Act.put, List.setIfInBounds_toArray, List.set_cons_zero, List.set_cons_succ]
      refine rgTake (i := 11) (N := some 57) (oi := { dst := some 57, op := Op.binOp BinOp.add 9 (Operand.tmp 52) (Operand.tmp 56) 9, type := 9, pos := "law.go:90", after := #[{ on := 6, ground := Ground.data }, { on := 10, ground := Ground.data }], guard := none }) (v := _) #[true, true, true, true, true, true, true, true, true, true, true, true, false, false, false, false, false, true, false, false, false] rfl rfl (by kernel_rfl) (fun _ _ _ h => h) (yieldsAdd (by rfl) _ _ _ _ rfl Z1 (T.drop (j + 1)) rfl rfl HS2.out Z2 HZ2.out) hHeld ?_
      simp only [Act.put, List.setIfInBounds_toArray, List.set_cons_zero, List.set_cons_succ]
      refine rgCall (i := 12) (N := some 58) (oi := { dst := some 58, op := Op.call { callee := Callee.value (Operand.func 15), args := #[Operand.tmp 57], argTypes := #[9] }, type := 33, pos := "law.go:90", after := #[{ on := 11, ground := Ground.data }], guard := none }) #[true, true, true, true, true, true, true, true, true, true, true, true, true, false, false, false, false, true, false, false, false] rfl rfl (by kernel_rfl) (fun K hK => ?_)
      go_simp
      (go_at_call 15; refine (HPA.out _ ((HB.out.1.cell (World.block_lt_of_cell? w _ HM.out)).trans HM.out)).mono ?_; rintro e wc ⟨⟨r1, S2, n2, c2, rfl⟩, hb⟩; replace HB := keepB HB hb; (try replace HN := keepA HN hb); clear hb)
      refine hK.out _ _ trivial (fun hHeld => ?_)
      (try simp only [Act.put, List.setIfInBounds_toArray, List.set_cons_zero, List.set_cons_succ])
      clear hK K
      refine rgTake (i := 13) (N := some 45) (oi := { dst := some 45, op := Op.move (Operand.tmp 58), type := 33, pos := "law.go:90", after := #[{ on := 12, ground := Ground.data }], guard := none }) (v := ?_) #[true, true, true, true, true, true, true, true, true, true, true, true, true, true, false, false, false, true, false, false, false] rfl rfl (by kernel_rfl) (fun _ _ _ h => h) (Or.inl ⟨by rfl, ?_⟩) hHeld ?_
      rotate_left
      · intro w' hSw; (try dsimp only at hSw); skip; go_simp; try with_reducible rfl
      simp only [Act.put, List.setIfInBounds_toArray, List.set_cons_zero, List.set_cons_succ]
      refine rgTake (i := 14) (N := some 59) (oi := { dst := some 59, op := Op.extract (Operand.tmp 45) 0, type := 25, pos := "law.go:90", after := #[{ on := 13, ground := Ground.data }], guard := none }) (v := ?_) #[true, true, true, true, true, true, true, true, true, true, true, true, true, true, true, false, false, true, false, false, false] rfl rfl (by kernel_rfl) (fun _ _ _ h => h) (Or.inl ⟨by rfl, ?_⟩) hHeld ?_
      rotate_left
      · intro w' hSw; (try dsimp only at hSw); skip; go_simp; try with_reducible rfl
      simp only [Act.put, List.setIfInBounds_toArray, List.set_cons_zero, List.set_cons_succ]
      refine rgTake (i := 15) (N := some 60) (oi := { dst := some 60, op := Op.extract (Operand.tmp 45) 1, type := 3, pos := "law.go:90", after := #[{ on := 13, ground := Ground.data }, { on := 18, ground := Ground.gcOnly Departure.lateStores }], guard := none }) (v := ?_) #[true, true, true, true, true, true, true, true, true, true, true, true, true, true, true, true, false, true, false, false, false] rfl rfl (by kernel_rfl) (fun _ _ _ h => h) (Or.inl ⟨by rfl, ?_⟩) hHeld ?_
      rotate_left
      · intro w' hSw; (try dsimp only at hSw); skip; go_simp; try with_reducible rfl
      simp only [Act.put, List.setIfInBounds_toArray, List.set_cons_zero, List.set_cons_succ]
      refine rgTake (i := 16) (N := some 61) (oi := { dst := some 61, op := Op.extract (Operand.tmp 45) 2, type := 32, pos := "law.go:90", after := #[{ on := 13, ground := Ground.data }, { on := 19, ground := Ground.gcOnly Departure.lateStores }], guard := none }) (v := ?_) #[true, true, true, true, true, true, true, true, true, true, true, true, true, true, true, true, true, true, false, false, false] rfl rfl (by kernel_rfl) (fun _ _ _ h => h) (Or.inl ⟨by rfl, ?_⟩) hHeld ?_
      rotate_left
      · intro w' hSw; (try dsimp only at hSw); skip; go_simp; try with_reducible rfl
      simp only [Act.put, List.setIfInBounds_toArray, List.set_cons_zero, List.set_cons_succ]
      refine rgCall (i := 18) (N := none) (oi := { dst := none, op := Op.store 25 (Operand.tmp 8) (Operand.tmp 59), type := 0, pos := "law.go:90", after := #[{ on := 17, ground := Ground.data }, { on := 14, ground := Ground.data }, { on := 12, ground := Ground.chain }, { on := 0, ground := Ground.phase }, { on := 1, ground := Ground.phase }, { on := 2, ground := Ground.phase }, { on := 3, ground := Ground.phase }, { on := 4, ground := Ground.phase }, { on := 5, ground := Ground.phase }, { on := 6, ground := Ground.phase }, { on := 7, ground := Ground.phase }, { on := 8, ground := Ground.phase }, { on := 9, ground := Ground.phase }, { on := 10, ground := Ground.phase }, { on := 11, ground := Ground.phase }, { on := 12, ground := Ground.phase }, { on := 13, ground := Ground.phase }, { on := 14, ground := Ground.phase }, { on := 15, ground := Ground.textOnly Departure.lateStores }, { on := 16, ground := Ground.textOnly Departure.lateStores }, { on := 17, ground := Ground.phase }], guard := none }) #[true, true, true, true, true, true, true, true, true, true, true, true, true, true, true, true, true, true, true, false, false] rfl rfl (by kernel_rfl) (fun K hK => ?_)
      refine rgStore (by rfl) 25 _ _ rfl gN rfl (imA r1 S2 n2 c2) rfl HN.out infoIm rfl (imA_one _ _ _ _) ?_; intro wd ha ho; replace HB := keepBo HB HGN.out ho; clear ha ho
      refine hK.out _ _ trivial (fun hHeld => ?_)
      clear hK K
      refine rgTake (i := 19) (N := some 9) (oi := { dst := some 9, op := Op.assign (Operand.tmp 60), type := 3, pos := "law.go:90", after := #[{ on := 15, ground := Ground.data }, { on := 18, ground := Ground.chain }, { on := 0, ground := Ground.phase }, { on := 1, ground := Ground.phase }, { on := 2, ground := Ground.phase }, { on := 3, ground := Ground.phase }, { on := 4, ground := Ground.phase }, { on := 5, ground := Ground.phase }, { on := 6, ground := Ground.phase }, { on := 7, ground := Ground.phase }, { on := 8, ground := Ground.phase }, { on := 9, ground := Ground.phase }, { on := 10, ground := Ground.phase }, { on := 11, ground := Ground.phase }, { on := 12, ground := Ground.phase }, { on := 13, ground := Ground.phase }, { on := 14, ground := Ground.phase }, { on := 15, ground := Ground.phase }, { on := 16, ground := Ground.textOnly Departure.lateStores }, { on := 17, ground := Ground.phase }, { on := 18, ground := Ground.phase }], guard := none }) (v := ?_) #[true, true, true, true, true, true, true, true, true, true, true, true, true, true, true, true, true, true, true, true, false] rfl rfl (by kernel_rfl) (fun _ _ _ h => h) (Or.inl ⟨by rfl, ?_⟩) hHeld ?_
      rotate_left
      · intro w' hSw; (try dsimp only at hSw); skip; go_simp; try with_reducible rfl
      simp only [Act.put, List.setIfInBounds_toArray, List.set_cons_zero, List.set_cons_succ]
      refine rgTake (i := 20) (N := some 10) (oi := { dst := some 10, op := Op.assign (Operand.tmp 61), type := 32, pos := "law.go:90", after := #[{ on := 16, ground := Ground.data }, { on := 19, ground := Ground.chain }, { on := 0, ground := Ground.phase }, { on := 1, ground := Ground.phase }, { on := 2, ground := Ground.phase }, { on := 3, ground := Ground.phase }, { on := 4, ground := Ground.phase }, { on := 5, ground := Ground.phase }, { on := 6, ground := Ground.phase }, { on := 7, ground := Ground.phase }, { on := 8, ground := Ground.phase }, { on := 9, ground := Ground.phase }, { on := 10, ground := Ground.phase }, { on := 11, ground := Ground.phase }, { on := 12, ground := Ground.phase }, { on := 13, ground := Ground.phase }, { on := 14, ground := Ground.phase }, { on := 15, ground := Ground.phase }, { on := 16, ground := Ground.phase }, { on := 17, ground := Ground.phase }, { on := 18, ground := Ground.phase }, { on := 19, ground := Ground.phase }], guard := none }) (v := ?_) #[true, true, true, true, true, true, true, true, true, true, true, true, true, true, true, true, true, true, true, true, true] rfl rfl (by kernel_rfl) (fun _ _ _ h => h) (Or.inl ⟨by rfl, ?_⟩) hHeld ?_
      rotate_left
      · intro w' hSw; (try dsimp only at hSw); skip; go_simp; try with_reducible rfl
      simp only [Act.put, List.setIfInBounds_toArray, List.set_cons_zero, List.set_cons_succ]
      refine rgDone (by kernel_rfl) ?_ _
      go_wp2_with (go_at_call 10; refine (awake_any m _ ((HB.out.1.cell (World.block_lt_of_cell? w _ HM.out)).trans HM.out)).mono ?_; rintro e w9 ⟨rfl, hb⟩; replace HB := keepB HB hb; clear hb); go_ret; exact ⟨rfl, HB.out.1⟩
  · refine rgAllocZ (by rfl) 25 rfl (imA 0 none 0 0) zeroIm ?_; intro gN wb hg1 hg2 ha hb; have HGN : Hid (w.heap.size ≤ gN) := Lib.hid (Nat.le_trans HB.out.2 hg1); replace HB := keepB HB hb; have HN := Lib.hid ha; (try replace HA := keepA HA hb); clear ha hb hg1 hg2
    refine hK.out _ _ trivial (fun hHeld => ?_)
    (try simp only [Act.put, List.setIfInBounds_toArray, List.set_cons_zero, List.set_cons_succ])
    clear hK K
    refine rgCall (i := 4) (N := some 50) (oi := { dst := some 50, op := Op.buildSlice 26 1 #[(0, Operand.tmp 49)], type := 26, pos := "law.go:90", after := #[{ on := 3, ground := Ground.data }], guard := none }) #[true, true, true, true, true, false, false, true, true, true, true, false, false, false, false, false, false, true, false, false, false] rfl rfl (by kernel_rfl) (fun K hK => ?_)
    refine rgLit (by rfl) 26 1 _ rfl #[.int .u8 cc] 5 (fun _ => by kernel_rfl) ?_; intro g wa hg1 hg2 ha hb; replace HB := keepB HB hb; have HA := Lib.hid ha; (try replace HN := keepA HN hb); clear ha hb hg1 hg2
    refine hK.out _ _ trivial (fun hHeld => ?_)
    (try simp only [Act.put, List.setIfInBounds_toArray, List.set_cons_zero, List.set_cons_succ])
    clear hK K
    refine rgCall (i := 5) (N := some 51) (oi := { dst := some 51, op := Op.convert 26 9 (Operand.tmp 50), type := 9, pos := "law.go:90", after := #[{ on := 4, ground := Ground.data }], guard := none }) #[true, true, true, true, true, true, false, true, true, true, true, false, false, false, false, false, false, true, false, false, false] rfl rfl (by kernel_rfl) (fun K hK => ?_)
    refine rgBack (by rfl) _ _ 5 _ rfl Tryd.underlying26 Tryd.underlying5 Tryd.underlying9 g 0 1 1 rfl [UInt8.ofNat cc] rfl HA.out (fun i hi => by have hi2 : i < 1 := hi; match i, hi2 with | 0, _ => exact congrArg (fun v => some (Value.int .u8 v)) HCC.out) ?_
    refine hK.out _ _ trivial (fun hHeld => ?_)
    (try simp only [Act.put, List.setIfInBounds_toArray, List.set_cons_zero, List.set_cons_succ])
    clear hK K
    refine rgTake (i := 6) (N := some 52) (oi := { dst := some 52, op := Op.binOp BinOp.add 9 (Operand.tmp 48) (Operand.tmp 51) 9, type := 9, pos := "law.go:90", after := #[{ on := 2, ground := Ground.data }, { on := 5, ground := Ground.data }], guard := none }) (v := _) #[true, true, true, true, true, true, true, true, true, true, true, false, false, false, false, false, false, true, false, false, false] rfl rfl (by kernel_rfl) (fun _ _ _ h => h) (yieldsAdd (by rfl) _ _ _ _ rfl (T.take j) [UInt8.ofNat cc] rfl rfl HS1.out Z1 HZ1.out) hHeld ?_
    simp only [Act.put, List.setIfInBounds_toArray, List.set_cons_zero, List.set_cons_succ]
    refine rgTake (i := 11) (N := some 57) (oi := { dst := some 57, op := Op.binOp BinOp.add 9 (Operand.tmp 52) (Operand.tmp 56) 9, type := 9, pos := "law.go:90", after := #[{ on := 6, ground := Ground.data }, { on := 10, ground := Ground.data }], guard := none }) (v := _) #[true, true, true, true, true, true, true, true, true, true, true, true, false, false, false, false, false, true, false, false, false] rfl rfl (by kernel_rfl) (fun _ _ _ h => h) (yieldsAdd (by rfl) _ _ _ _ rfl Z1 (T.drop (j + 1)) rfl rfl HS2.out Z2 HZ2.out) hHeld ?_
    simp only [Act.put, List.setIfInBounds_toArray, List.set_cons_zero, List.set_cons_succ]
    refine rgCall (i := 12) (N := some 58) (oi := { dst := some 58, op := Op.call { callee := Callee.value (Operand.func 15), args := #[Operand.tmp 57], argTypes := #[9] }, type := 33, pos := "law.go:90", after := #[{ on := 11, ground := Ground.data }], guard := none }) #[true, true, true, true, true, true, true, true, true, true, true, true, true, false, false, false, false, true, false, false, false] rfl rfl (by kernel_rfl) (fun K hK => ?_)
    go_simp
    (go_at_call 15; refine (HPA.out _ ((HB.out.1.cell (World.block_lt_of_cell? w _ HM.out)).trans HM.out)).mono ?_; rintro e wc ⟨⟨r1, S2, n2, c2, rfl⟩, hb⟩; replace HB := keepB HB hb; (try replace HN := keepA HN hb); clear hb)
    refine hK.out _ _ trivial (fun hHeld => ?_)
    (try simp only [Act.put, List.setIfInBounds_toArray, List.set_cons_zero, List.set_cons_succ])
    clear hK K
    refine rgTake (i := 13) (N := some 45) (oi := { dst := some 45, op := Op.move (Operand.tmp 58), type := 33, pos := "law.go:90", after := #[{ on := 12, ground := Ground.data }], guard := none }) (v := ?_) #[true, true, true, true, true, true, true, true, true, true, true, true, true, true, false, false, false, true, false, false, false] rfl rfl (by kernel_rfl) (fun _ _ _ h => h) (Or.inl ⟨by rfl, ?_⟩) hHeld ?_
    rotate_left
    · intro w' hSw; (try dsimp only at hSw); skip; go_simp; try with_reducible rfl
    simp only [Act.put, List.setIfInBounds_toArray, List.set_cons_zero, List.set_cons_succ]
    refine rgTake (i := 14) (N := some 59) (oi := { dst := some 59, op := Op.extract (Operand.tmp 45) 0, type := 25, pos := "law.go:90", after := #[{ on := 13, ground := Ground.data }], guard := none }) (v := ?_) #[true, true, true, true, true, true, true, true, true, true, true, true, true, true, true, false, false, true, false, false, false] rfl rfl (by kernel_rfl) (fun _ _ _ h => h) (Or.inl ⟨by rfl, ?_⟩) hHeld ?_
    rotate_left
    · intro w' hSw; (try dsimp only at hSw); skip; go_simp; try with_reducible rfl
    simp only [Act.put, List.setIfInBounds_toArray, List.set_cons_zero, List.set_cons_succ]
    refine rgTake (i := 15) (N := some 60) (oi := { dst := some 60, op := Op.extract (Operand.tmp 45) 1, type := 3, pos := "law.go:90", after := #[{ on := 13, ground := Ground.data }, { on := 18, ground := Ground.gcOnly Departure.lateStores }], guard := none }) (v := ?_) #[true, true, true, true, true, true, true, true, true, true, true, true, true, true, true, true, false, true, false, false, false] rfl rfl (by kernel_rfl) (fun _ _ _ h => h) (Or.inl ⟨by rfl, ?_⟩) hHeld ?_
    rotate_left
    · intro w' hSw; (try dsimp only at hSw); skip; go_simp; try with_reducible rfl
    simp only [Act.put, List.setIfInBounds_toArray, List.set_cons_zero, List.set_cons_succ]
    refine rgTake (i := 16) (N := some 61) (oi := { dst := some 61, op := Op.extract (Operand.tmp 45) 2, type := 32, pos := "law.go:90", after := #[{ on := 13, ground := Ground.data }, { on := 19, ground := Ground.gcOnly Departure.lateStores }], guard := none }) (v := ?_) #[true, true, true, true, true, true, true, true, true, true, true, true, true, true, true, true, true, true, false, false, false] rfl rfl (by kernel_rfl) (fun _ _ _ h => h) (Or.inl ⟨by rfl, ?_⟩) hHeld ?_
    rotate_left
    · intro w' hSw; (try dsimp only at hSw); skip; go_simp; try with_reducible rfl
    simp only [Act.put, List.setIfInBounds_toArray, List.set_cons_zero, List.set_cons_succ]
    refine rgCall (i := 18) (N := none) (oi := { dst := none, op := Op.store 25 (Operand.tmp 8) (Operand.tmp 59), type := 0, pos := "law.go:90", after := #[{ on := 17, ground := Ground.data }, { on := 14, ground := Ground.data }, { on := 12, ground := Ground.chain }, { on := 0, ground := Ground.phase }, { on := 1, ground := Ground.phase }, { on := 2, ground := Ground.phase }, { on := 3, ground := Ground.phase }, { on := 4, ground := Ground.phase }, { on := 5, ground := Ground.phase }, { on := 6, ground := Ground.phase }, { on := 7, ground := Ground.phase }, { on := 8, ground := Ground.phase }, { on := 9, ground := Ground.phase }, { on := 10, ground := Ground.phase }, { on := 11, ground := Ground.phase }, { on := 12, ground := Ground.phase }, { on := 13, ground := Ground.phase }, { on := 14, ground := Ground.phase }, { on := 15, ground := Ground.textOnly Departure.lateStores }, { on := 16, ground := Ground.textOnly Departure.lateStores }, { on := 17, ground := Ground.phase }], guard := none }) #[true, true, true, true, true, true, true, true, true, true, true, true, true, true, true, true, true, true, true, false, false] rfl rfl (by kernel_rfl) (fun K hK => ?_)
    refine rgStore (by rfl) 25 _ _ rfl gN rfl (imA r1 S2 n2 c2) rfl HN.out infoIm rfl (imA_one _ _ _ _) ?_; intro wd ha ho; replace HB := keepBo HB HGN.out ho; clear ha ho
    refine hK.out _ _ trivial (fun hHeld => ?_)
    clear hK K
    refine rgTake (i := 19) (N := some 9) (oi := { dst := some 9, op := Op.assign (Operand.tmp 60), type := 3, pos := "law.go:90", after := #[{ on := 15, ground := Ground.data }, { on := 18, ground := Ground.chain }, { on := 0, ground := Ground.phase }, { on := 1, ground := Ground.phase }, { on := 2, ground := Ground.phase }, { on := 3, ground := Ground.phase }, { on := 4, ground := Ground.phase }, { on := 5, ground := Ground.phase }, { on := 6, ground := Ground.phase }, { on := 7, ground := Ground.phase }, { on := 8, ground := Ground.phase }, { on := 9, ground := Ground.phase }, { on := 10, ground := Ground.phase }, { on := 11, ground := Ground.phase }, { on := 12, ground := Ground.phase }, { on := 13, ground := Ground.phase }, { on := 14, ground := Ground.phase }, { on := 15, ground := Ground.phase }, { on := 16, ground := Ground.textOnly Departure.lateStores }, { on := 17, ground := Ground.phase }, { on := 18, ground := Ground.phase }], guard := none }) (v := ?_) #[true, true, true, true, true, true, true, true, true, true, true, true, true, true, true, true, true, true, true, true, false] rfl rfl (by kernel_rfl) (fun _ _ _ h => h) (Or.inl ⟨by rfl, ?_⟩) hHeld ?_
    rotate_left
    · intro w' hSw; (try dsimp only at hSw); skip; go_simp; try with_reducible rfl
    simp only [Act.put, List.setIfInBounds_toArray, List.set_cons_zero, List.set_cons_succ]
    refine rgTake (i := 20) (N := some 10) (oi := { dst := some 10, op := Op.assign (Operand.tmp 61), type := 32, pos := "law.go:90", after := #[{ on := 16, ground := Ground.data }, { on := 19, ground := Ground.chain }, { on := 0, ground := Ground.phase }, { on := 1, ground := Ground.phase }, { on := 2, ground := Ground.phase }, { on := 3, ground := Ground.phase }, { on := 4, ground := Ground.phase }, { on := 5, ground := Ground.phase }, { on := 6, ground := Ground.phase }, { on := 7, ground := Ground.phase }, { on := 8, ground := Ground.phase }, { on := 9, ground := Ground.phase }, { on := 10, ground := Ground.phase }, { on := 11, ground := Ground.phase }, { on := 12, ground := Ground.phase }, { on := 13, ground := Ground.phase }, { on := 14, ground := Ground.phase }, { on := 15, ground := Ground.phase }, { on := 16, ground := Ground.phase }, { on := 17, ground := Ground.phase }, { on := 18, ground := Ground.phase }, { on := 19, ground := Ground.phase }], guard := none }) (v := ?_) #[true, true, true, true, true, true, true, true, true, true, true, true, true, true, true, true, true, true, true, true, true] rfl rfl (by kernel_rfl) (fun _ _ _ h => h) (Or.inl ⟨by rfl, ?_⟩) hHeld ?_
    rotate_left
    · intro w' hSw; (try dsimp only at hSw); skip; go_simp; try with_reducible rfl
    simp only [Act.put, List.setIfInBounds_toArray, List.set_cons_zero, List.set_cons_succ]
    refine rgDone (by kernel_rfl) ?_ _
    go_wp2_with (go_at_call 10; refine (awake_any m _ ((HB.out.1.cell (World.block_lt_of_cell? w _ HM.out)).trans HM.out)).mono ?_; rintro e w9 ⟨rfl, hb⟩; replace HB := keepB HB hb; clear hb); go_ret; exact ⟨rfl, HB.out.1⟩
end Go.Proofs.YtnigkecpiolgeaaDoor.My
set_option linter.unusedVariables false
set_option linter.unusedSimpArgs false
namespace Go.Proofs.YtnigkecpiolgeaaDoor.My
open Go.RowKit
theorem finds_any (st c : Nat) (S : Option Addr) (ms : List SegM) (at_ : Int) (cc : Int) (m : Int) (w : World) (hM : w.cell? ⟨0, 0, none⟩ = some (.int .i64 m)) (hst : st < 4294967296) (hx : RdSgG w S ms) (hmx : ms.length ≤ 9223372036854775807) (hmc : ms.length ≤ c) (ha1 : -9223372036854775808 ≤ at_) (ha2 : at_ ≤ 9223372036854775807) (c0 : 0 ≤ cc) (c1 : cc < 256) :
    Calls Tryd.prog 6 #[.agg (imA st S ms.length c), .int .i64 at_, .int .u8 cc] w fun e w' => e = .returned (.bool true) ∧ Below w.heap.size w w' := by
  obtain ⟨k, rfl⟩ : ∃ k : Nat, cc = (k : Int) := ⟨cc.toNat, by omega⟩
  have hcc : k < 256 := by omega
  by_cases hL : lightB (ms.map SegM.v) = true
  rotate_left
  · exact finds_out st c S ms at_ k m w hM hst hx hmx hmc hcc ha1 ha2 (.inl (by simpa using hL))
  by_cases hD : isDig k = true
  rotate_left
  · exact finds_out st c S ms at_ k m w hM hst hx hmx hmc hcc ha1 ha2 (.inr (by simpa using hD))
  obtain ⟨T, hT⟩ : ∃ T, textV st (ms.map SegM.v) = T := ⟨_, rfl⟩
  by_cases ho : at_ < 0 ∨ (T.length : Int) ≤ at_
  · exact finds_off st c S ms at_ k m w hM hst hx hmx hmc hcc ha1 ha2 hL hD T hT ho
  obtain ⟨j, rfl⟩ : ∃ j : Nat, at_ = (j : Int) := ⟨at_.toNat, by omega⟩
  obtain ⟨x, hj⟩ : ∃ x, T[j]? = some x := ⟨_, List.getElem?_eq_getElem (by omega)⟩
  by_cases h1 : isDig x.toNat = false ∨ x.toNat = k
  · exact finds_dig st c S ms j k m w hM hst hx hmx hmc hcc hL hD T hT x hj h1
  · exact finds_main st c S ms j k m w hM hst hx hmx hmc hcc hL hD T hT x hj (by cases h : isDig x.toNat with | true => rfl | false => exact absurd (.inl h) h1) (fun e => h1 (.inr e))
end Go.Proofs.YtnigkecpiolgeaaDoor.My
namespace Go.Proofs.YtnigkecpiolgeaaDoor
open Go.ChangeShapes Go.WideShapes Go.ChangeAt Go.RowKit My
theorem own_RomFinds : ownKnob Tryd.prog.godebug = none := by kernel_rfl
theorem laidOut_RomFinds : laidOutB Tryd.prog = true := by kernel_rfl
noncomputable def laid_RomFinds : List (String × DataW Unit) := [("unicode/utf8.acceptRanges", Rows.laid_unicode_utf8_acceptRanges), ("unicode/utf8.first", Rows.laid_unicode_utf8_first)]
set_option maxRecDepth 100000 in
theorem lifted_RomFinds (os : Os) (started : os.Started) (H : Type) (enc : TypeId × Value → H) :
    ReturnsInHanded {} Tryd.checked os 6 .any (fun w args => (Rows.romFindsSpec.pre enc Tryd.prog Tryd.f6 [] false w args ∧ laidMetH Tryd.prog laid_RomFinds w) ∧ sizedMet enc Tryd.prog Tryd.f6 (OpenSpec.ofChange Rows.romFindsSpec) false w args) (Rows.romFindsSpec.post enc Tryd.prog Tryd.f6 false true false false) := by
  refine handed_shaped (C := Tryd.checked) (X := fun w _ => laidMetH Tryd.prog laid_RomFinds w) (fun _ _ _ hh h => h.of_heap hh) own_RomFinds started (by kernel_rfl) Tryd.func6
    (ChangeSpec.witness_shaped (enc := enc) (C := Tryd.checked) (os := os) (X := fun w _ => laidMetH Tryd.prog laid_RomFinds w) false (World.laidAll Tryd.prog os laid_RomFinds) #[.agg #[.int .u32 0, .slice none 0 0], .int .i64 0, .int .u8 0] 8 (World.laidAll_os _ _ _)
      (World.shaped_of_ZipB (by kernel_rfl) (by kernel_rfl)) (by kernel_rfl) (by kernel_rfl) (by kernel_rfl)
      (by rw [MakeChecks.laidMetH_plain _ _ _ (by kernel_rfl)]; exact laidMet_laidAll _ (by kernel_rfl) (by kernel_rfl))) ?_
  intro W base args ds gs before hval0 hW hcnd hsz0 hsh _ _
  obtain ⟨mx, hmx⟩ := Tryd.maxLen_cell W hsh
  have hsz : (DataW.weightsEach Tryd.prog (Tryd.f6.params.toList ++ Rows.romFindsSpec.plain.varTypes Tryd.prog) (ds ++ gs)).all (· ≤ reachBytes) = true := hsz0
  have hval : ∀ (j : Nat) t v, Tryd.f6.params[j]? = some t → args[j]? = some v → Value.okWide Tryd.prog W .any base t v := hval0
  have hW' := hW
  obtain ⟨p, q, hA0, hV, rfl, hfz, hnd⟩ := hW
  have hA : DataW.TrodAll enc Tryd.prog W 0 (fun _ => true) true Tryd.f6.params.toList args.toList ds p := hA0
  rw [Tryd.params6] at hA hval hsz
  obtain ⟨v0, vs0, d0, ds0, p0, q0, hargs, rfl, rfl, h0, r0⟩ := trodAll_cons hA
  obtain ⟨v1, vs1, d1, ds1, p1, q1, rfl, rfl, rfl, h1, r1⟩ := trodAll_cons r0
  obtain ⟨v2, vs2, d2, ds2, p2, q2, rfl, rfl, rfl, h2, r2⟩ := trodAll_cons r1
  obtain ⟨rfl, rfl, rfl⟩ := trodAll_nil r2
  obtain rfl : args = #[v0, v1, v2] := by cases args; simp_all
  obtain ⟨rfl, rfl⟩ := trodVars_none hV
  have ok0 := hval 0 25 v0 rfl rfl
  have ok1 := hval 1 3 v1 rfl rfl
  have ok2 := hval 2 5 v2 rfl rfl
  have lt0 : ∀ x ∈ p0, x.block < W.heap.size := fun x hx => by simpa using hW'.lt x (by simp [hx])
  have lt1 : ∀ x ∈ p1, x.block < W.heap.size := fun x hx => by simpa using hW'.lt x (by simp [hx])
  have lt2 : ∀ x ∈ p2, x.block < W.heap.size := fun x hx => by simpa using hW'.lt x (by simp [hx])
  clear hA0 hval0 hsz0
  obtain ⟨st, S, ms, c, rfl, hst, hx, hm1, hm2⟩ := open_image ok0 h0; obtain ⟨a1, rfl, rfl, rfl, w1⟩ := open_int Tryd.underlying3 ok1 h1; obtain ⟨a2, rfl, rfl, rfl, w2⟩ := open_int Tryd.underlying5 ok2 h2; obtain ⟨i1, i2⟩ := wf_i64 w1; obtain ⟨i3, i4⟩ := wf_u8 w2
  refine (finds_any st c S ms a1 a2 mx W hmx hst hx hm1 hm2 i1 i2 i3 i4).mono fun e W' ⟨he, bel⟩ => ?_
  subst he
  exact ⟨_, rfl, _, _, _, [], _, [], hW', trodAll_mk1 (shut_bool Tryd.underlying4 _), (trodAll_cons_mk (Below.trod laidOut_RomFinds (by kernel_rfl) (of_decide_eq_true (by kernel_rfl)) h0 bel lt0) (trodAll_cons_mk (Below.trod laidOut_RomFinds (by kernel_rfl) (of_decide_eq_true (by kernel_rfl)) h1 bel lt1) (trodAll_cons_mk (Below.trod laidOut_RomFinds (by kernel_rfl) (of_decide_eq_true (by kernel_rfl)) h2 bel lt2) trodAll_mk0))), rfl, bel.frame _, fun h => by cases h⟩
theorem romFinds_holds : Rows.RomFindsSaid :=
  OpenClaim.holds_of_wide 6 Tryd.f6 rfl rfl rfl rfl rfl rfl rfl ⟨rfl, rfl, rfl, rfl, rfl⟩ rfl rfl rfl rfl rfl (by kernel_rfl) Tryd.func6 (by kernel_rfl)
    (of_decide_eq_true (by kernel_rfl)) (by unfold Func.isWrapper; first | (rw [if_pos (by decide +kernel)]; kernel_rfl) | (rw [if_neg (by decide +kernel)]; exact ⟨rfl, rfl⟩))
    (fun os started H enc _ => lifted_RomFinds os started H enc)
#print axioms romFinds_holds
theorem card_romFinds : Rows.RomFindsCardSaid :=
  Claim7.holds_tied_plain_at .later [] [.data, .pinned] true (true, "ef81543063f4ba5f1c774ca9fdd4416c8adb239c719eeecd79f77349a7be26b1") false
    romFinds_holds (fun _ h => by cases h) (by kernel_rfl) (fun _ h => by cases h) romFinds_row_tie rfl ⟨rfl, rfl⟩ (by kernel_rfl) rfl
    (fun f fn hf hfn => by
      obtain rfl : f = 6 := Option.some.inj ((show Tryd.prog.funcNamed "cotterel/cotterellaw09.RomFinds" = some 6 by kernel_rfl).symm.trans hf) |>.symm
      obtain rfl : fn = Tryd.f6 := (Option.some.inj (Tryd.func6.symm.trans hfn)).symm
      exact ⟨by kernel_rfl, fun j t ht => by
        rw [Tryd.params6] at ht
        have hm : t ∈ [25, 3, 5] := by simpa using Array.mem_of_getElem? ht
        have hall : ([25, 3, 5].all fun u => !Tryd.prog.wantsStandIn u) = true := by kernel_rfl
        exact (show Tryd.prog.wantsStandIn t = false by simpa using List.all_eq_true.1 hall t hm)⟩)
    (by kernel_rfl)
#print axioms card_romFinds
end Go.Proofs.YtnigkecpiolgeaaDoor
