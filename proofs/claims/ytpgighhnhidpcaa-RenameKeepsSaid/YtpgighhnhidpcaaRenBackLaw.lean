/- The law of Back: what is renamed and undone leaves both maps and the ring's list as they were. -/
import Derived.Test.YtpgighhnhidpcaaRenBackPlain
import Derived.Test.YtpgighhnhidpcaaHeldWords
set_option linter.unusedSimpArgs false
set_option linter.unusedVariables false
namespace Go.Proofs.Ytpgighhnhidpcaa.My
open Go.RowKit
theorem ring_le (xs : List Int) (n : Nat) (h N : Int) : (ringL xs n h N).length ≤ 96 := by
  cases hs : soundB n h N with
  | false => simp [ringL, hs]
  | true =>
    rw [ring_len hs]
    obtain ⟨h1, _, _, _, h5⟩ := sound_iff.1 hs
    omega
set_option maxRecDepth 100000 in
theorem back_off (n : Int) (L1 L2 : Option Addr) (k1 k2 n1 n2 : Nat) (w : World) (hn1 : n1 ≤ 9223372036854775807) (hn2 : n2 ≤ 9223372036854775807) (h : n < 17 ∨ 96 < n ∨ 40 < n1 ∨ 40 < n2) : Calls Try.prog 5 #[.int .i64 n, .slice L1 n1 k1, .slice L2 n2 k2] w fun e w' => e = .returned (.bool true) ∧ Below w.heap.size w w' := by
  have HB := startB w
  by_cases h1 : n < 17
  · clear h
    go_enter Try.func5, Try.ntmps5
    go_wp2_with (first | (go_at_call 9; refine (awake_any _).mono ?_; rintro e w4 ⟨rfl, hb⟩; replace HB := keepB HB hb))
    go_ret
    exact ⟨rfl, HB.out.1⟩
  · by_cases h2 : 96 < n
    · clear h
      go_enter Try.func5, Try.ntmps5
      go_wp2_with (first | (go_at_call 9; refine (awake_any _).mono ?_; rintro e w4 ⟨rfl, hb⟩; replace HB := keepB HB hb))
      go_ret
      exact ⟨rfl, HB.out.1⟩
    · by_cases h3 : 40 < n1
      · clear h
        go_enter Try.func5, Try.ntmps5
        go_wp2_with (first | (go_at_call 9; refine (awake_any _).mono ?_; rintro e w4 ⟨rfl, hb⟩; replace HB := keepB HB hb))
        go_ret
        exact ⟨rfl, HB.out.1⟩
      · have h4 : 40 < n2 := by omega
        clear h
        go_enter Try.func5, Try.ntmps5
        go_wp2_with (first | (go_at_call 9; refine (awake_any _).mono ?_; rintro e w4 ⟨rfl, hb⟩; replace HB := keepB HB hb))
        go_ret
        exact ⟨rfl, HB.out.1⟩
theorem neKeep2 {A1 A2 : Option Addr} {n n' S g : Nat} (hl : ∀ a, A1 = some a → 0 < n → a.block ≠ g) (hA : A2 = A1 ∨ Fresh S A2) (hg : g < S) (hn : n' = n := by rfl) : ∀ a, A2 = some a → 0 < n' → a.block ≠ g := fun a ha h0 he => by
  rcases hA with rfl | hf
  · exact hl a ha (hn ▸ h0) he
  · have := hf a ha; omega
set_option maxRecDepth 100000 in
set_option maxHeartbeats 8000000 in
theorem back_walk (n : Int) (W0 F1 F2 : NmV) (us ls : List UopV) (fl gl : List RenV) (kW : W0.Ok) (kF1 : F1.Ok) (kF2 : F2.Ok) (hfl : fl.length ≤ 40) (h1 : ¬ n < 17) (h2 : ¬ 96 < n) (h3 : ¬ 40 < us.length) (h4 : ¬ 40 < ls.length) (hback : (fl.reverse.foldl unV F2).Same F1)
    (hNw : ∀ w, Calls Try.prog 14 #[.int .i64 n] w fun e w' => ∃ A c, e = .returned (.agg (nmA W0 A c)) ∧ RdA .i64 w' A W0.n W0.xs ∧ Fresh w.heap.size A ∧ Below w.heap.size w w')
    (hG1 : ∀ A L c kL w, RdA .i64 w A W0.n W0.xs → RwA w L 23 us.length (us.map uA) → Calls Try.prog 10 #[.agg (nmA W0 A c), .slice L us.length kL] w fun e w' => GrP w w' A F1 gl e)
    (hG2 : ∀ A L c kL w, RdA .i64 w A F1.n F1.xs → RwA w L 23 ls.length (ls.map uA) → Calls Try.prog 10 #[.agg (nmA F1 A c), .slice L ls.length kL] w fun e w' => GrP w w' A F2 fl e)
    (L1 L2 : Option Addr) (k1 k2 : Nat) (w : World) (hl1 : RwA w L1 23 us.length (us.map uA)) (hl2 : RwA w L2 23 ls.length (ls.map uA)) : Calls Try.prog 5 #[.int .i64 n, .slice L1 us.length k1, .slice L2 ls.length k2] w fun e w' => e = .returned (.bool true) ∧ Below w.heap.size w w' := by
  have HB := startB w
  have HL1 := Lib.hid hl1
  have HL2 := Lib.hid hl2
  have HLL1 := Lib.hid hl1.lt
  have HLL2 := Lib.hid hl2.lt
  have HBK := Lib.hid hback
  clear hl1 hl2 hback
  go_enter Try.func5, Try.ntmps5
  go_wp2_with (first | (go_at_call 14; refine (hNw _).mono ?_; rintro e w1 ⟨A0, c0, rfl, hr, hF, hb⟩; replace HL1 := Lib.hid (HL1.out.below hb); replace HL2 := Lib.hid (HL2.out.below hb); replace HB := keepB HB hb; have HX0 := Lib.hid hr; clear hr hF hb) | (have hq := H7; clear hq; go_at_call 10; refine (hG2 A7 L2 c7 k2 _ HX7.out HL2.out).mono ?_; rintro e w5 ⟨A9, c9, B9, d9, rfl, hr, hA, hw9, hF, hb⟩; replace HL1 := Lib.hid (HL1.out.below hb); replace HL2 := Lib.hid (HL2.out.below hb); replace HB := keepB HB hb; replace H7 := keepA H7 hb; replace HX7 := Lib.hid (HX7.out.below hb); have HX9 := Lib.hid hr; have HW9 := Lib.hid hw9; clear hr hA hw9 hF hb) | (go_at_call 10; refine (hG1 A0 L1 c0 k1 _ HX0.out HL1.out).mono ?_; rintro e w2 ⟨A7, c7, B1, d1, rfl, hr, hA, hw5, hF, hb⟩; replace HL1 := Lib.hid (HL1.out.below hb); replace HL2 := Lib.hid (HL2.out.below hb); replace HB := keepB HB hb; clear HX0; have HX7 := Lib.hid hr; clear hr hA hw5 hF hb) | (have hq := HX9; clear hq; refine wlAlloc rfl 29 rfl _ zeroNames ?_; intro g9 w6 hg9 hg9' hz hb; have h79 : g7 < g9 := Nat.lt_of_lt_of_le (Array.getElem?_eq_some_iff.1 H7.out).1 hg9; have hA7 : Hid (∀ a, A7 = some a → 0 < F1.n → a.block < g9) := Lib.hid (fun a e1 e2 => Nat.lt_of_lt_of_le (HX7.out.lt a e1 e2) hg9); have hA9 : Hid (∀ a, A9 = some a → 0 < F2.n → a.block < g9) := Lib.hid (fun a e1 e2 => Nat.lt_of_lt_of_le (HX9.out.lt a e1 e2) hg9); have hB9 : Hid (∀ a, B9 = some a → 0 < fl.length → a.block < g9) := Lib.hid (fun a e1 e2 => Nat.lt_of_lt_of_le (HW9.out.lt a e1 e2) hg9); replace HL1 := Lib.hid (HL1.out.below hb); replace HL2 := Lib.hid (HL2.out.below hb); replace HB := keepB HB hb; replace H7 := keepA H7 hb; replace HX7 := Lib.hid (HX7.out.below hb); replace HX9 := Lib.hid (HX9.out.below hb); replace HW9 := Lib.hid (HW9.out.below hb); have H9 := Lib.hid hz; clear hz hb) | (refine wlAlloc rfl 29 rfl _ zeroNames ?_; intro g7 w3 hg7 hg7' hz hb; have hw7 : w.heap.size ≤ g7 := Nat.le_trans HB.out.2 hg7; have hA77 : Hid (∀ a, A7 = some a → 0 < F1.n → a.block < g7) := Lib.hid (fun a e1 e2 => Nat.lt_of_lt_of_le (HX7.out.lt a e1 e2) hg7); replace HL1 := Lib.hid (HL1.out.below hb); replace HL2 := Lib.hid (HL2.out.below hb); replace HB := keepB HB hb; replace HX7 := Lib.hid (HX7.out.below hb); have H7 := Lib.hid hz; clear hz hb) | (refine rowStore rfl 29 _ _ rfl g7 rfl (nmA F1 A7 c7) rfl H7.out (nm_szV kF1 _ _) (zZ _ kF1 _ _) (nm_oneV _ _ _) ?_; intro w4 hz ho; replace HL1 := Lib.hid (HL1.out.only2 ho (fun a e1 e2 => by have := HLL1.out a e1 e2; omega)); replace HL2 := Lib.hid (HL2.out.only2 ho (fun a e1 e2 => by have := HLL2.out a e1 e2; omega)); replace HB := keepBo HB (by omega) ho; replace HX7 := Lib.hid (HX7.out.only2 ho (fun a e1 e2 => by have := hA77.out a e1 e2; omega)); clear H7; have H7 := Lib.hid hz; clear hz ho) | (refine rowLoad rfl 29 _ rfl g7 rfl H7.out Try.underlying29 rfl (nm_szV kF1 _ _) ?_) | (refine rowStore rfl 29 _ _ rfl g9 rfl (nmA F2 A9 c9) rfl H9.out (nm_szV kF2 _ _) (zZ _ kF2 _ _) (nm_oneV _ _ _) ?_; intro w7 hz ho; replace HL1 := Lib.hid (HL1.out.only2 ho (fun a e1 e2 => by have := HLL1.out a e1 e2; omega)); replace HL2 := Lib.hid (HL2.out.only2 ho (fun a e1 e2 => by have := HLL2.out a e1 e2; omega)); replace HB := keepBo HB (by omega) ho; replace H7 := keepAo H7 (by omega) ho; replace HX7 := Lib.hid (HX7.out.only2 ho (fun a e1 e2 => by have := hA7.out a e1 e2; omega)); replace HX9 := Lib.hid (HX9.out.only2 ho (fun a e1 e2 => by have := hA9.out a e1 e2; omega)); replace HW9 := Lib.hid (HW9.out.only2 ho (fun a e1 e2 => by have := hB9.out a e1 e2; omega)); clear H9; have H9 := Lib.hid hz; clear hz ho))
  go_loopg [11] fl.length (fun gk i wr => ∃ (z : Int) (V : NmV) (A1 : Option Addr) (c1 : Nat), i = .int .i64 z ∧ z = (gk : Int) - 1 ∧ gk ≤ fl.length ∧ Hid (wr.heap[g9]? = some (.cells (nmA V A1 c1) 29 (0, 0))) ∧ Hid (wr.heap[g7]? = some (.cells (nmA F1 A7 c7) 29 (0, 0))) ∧ Hid (RdA .i64 wr A1 V.n V.xs) ∧ Hid (RdA .i64 wr A7 F1.n F1.xs) ∧ Hid (RwA wr B9 29 fl.length (fl.map rA)) ∧ Hid (∀ a, A1 = some a → 0 < V.n → a.block ≠ g9) ∧ V.Ok ∧ Hid (((fl.take gk).reverse.foldl unV V).Same F1) ∧ Hid (Below w.heap.size w wr ∧ w.heap.size ≤ wr.heap.size))
  case atStart => exact ⟨_, F2, A9, c9, rfl, by omega, Nat.le_refl _, H9, H7, HX9, HX7, HW9, Lib.hid (fun a e1 e2 => by have := hA9.out a e1 e2; omega), kF2, by rw [List.take_length]; exact HBK, HB⟩
  case round =>
    clear H9 H7 HX9 HX7 HW9 HB HBK HL1 HL2
    obtain ⟨z, V, A1, c1, rfl, hz, hgk, H9, H7, HX, HX7, HW9, HAS, kV, HBK, HB⟩ := hrel
    cases gk with
    | succ q =>
      have hlt : q < fl.length := by omega
      have hn0 : 0 < fl.length := by omega
      obtain rfl : z = (q : Int) := by omega
      clear hz
      obtain ⟨r, hr⟩ : ∃ r, fl[q]? = some r := ⟨_, List.getElem?_eq_getElem hlt⟩
      obtain ⟨bL, oL, rfl, _, _⟩ := HW9.out.2.2 hn0
      have HBN := Lib.hid (undo_step hr HBK.out)
      go_wp2
      replace H9 := keepA1 H9
      replace H7 := keepA1 H7
      replace HX := Lib.hid (HX.out.drew 1)
      replace HX7 := Lib.hid (HX7.out.drew 1)
      replace HW9 := Lib.hid (HW9.out.drew 1)
      replace HB := keepB1 HB
      refine rgStartC (S := (fun w' => w'.heap[g9]? = some (.cells (nmA V A1 c1) 29 (0, 0)) ∧ w'.rangeAt bL (oL + q * 29) (rA r).toList)) (n := 7) 5 #[false, false, false, false, false, false, false] (by kernel_rfl) rfl rfl ⟨H9.out, HW9.out.at_ hn0 (rens_get hr)⟩ (fun hHeld => ?_)
      refine rgTakeS (i := 0) (N := some 49) (oi := { dst := some 49, op := Op.load 29 (Operand.tmp 9), type := 29, pos := "law.go:106", after := #[], guard := none }) (v := _) #[true, false, false, false, false, false, false] rfl rfl (by kernel_rfl) (by kernel_rfl) (fun _ _ _ h => h) (by first | exact yieldsRow (by rfl) _ _ rfl _ rfl (fun _ h => h.1) Try.underlying29 rfl (nm_szV kV _ _) | exact yieldsMid (by rfl) _ _ rfl bL (oL + q * 29) rfl (rA r) (fun _ h => h.2) Try.underlying52 rfl infoRen) hHeld ?_
      simp only [Act.put, List.setIfInBounds_toArray, List.set_cons_zero, List.set_cons_succ]
      refine rgTakeA (i := 1) (N := some 50) (oi := { dst := some 50, op := Op.move (Operand.tmp 10), type := 33, pos := "law.go:106", after := #[], guard := none }) (v := ?_) #[true, true, false, false, false, false, false] rfl rfl (by kernel_rfl) (by kernel_rfl) (fun _ _ _ h => h) (Or.inl ⟨by rfl, ?_⟩) (.inr hHeld.out) ?_
      rotate_left
      · intro w' hSw; clear hSw; go_simp; try with_reducible rfl
      simp only [Act.put, List.setIfInBounds_toArray, List.set_cons_zero, List.set_cons_succ]
      refine rgTakeA (i := 2) (N := some 51) (oi := { dst := some 51, op := Op.move (Operand.tmp 11), type := 3, pos := "law.go:106", after := #[], guard := none }) (v := ?_) #[true, true, true, false, false, false, false] rfl rfl (by kernel_rfl) (by kernel_rfl) (fun _ _ _ h => h) (Or.inl ⟨by rfl, ?_⟩) (.inr hHeld.out) ?_
      rotate_left
      · intro w' hSw; clear hSw; go_simp; try with_reducible rfl
      simp only [Act.put, List.setIfInBounds_toArray, List.set_cons_zero, List.set_cons_succ]
      refine rgTakeA (i := 3) (N := some 52) (oi := { dst := some 52, op := Op.indexAddr 33 (Operand.tmp 50) (Operand.tmp 51), type := 0, pos := "law.go:106", after := #[{ on := 1, ground := Ground.data }, { on := 2, ground := Ground.data }], guard := none }) (v := _) #[true, true, true, true, false, false, false] rfl rfl (by kernel_rfl) (by kernel_rfl) (fun _ _ _ h => h) (yieldsIdx (by rfl) 33 _ _ rfl 52 29 Try.underlying33 sizeRen bL oL fl.length d9 q rfl rfl hlt) (.inr hHeld.out) ?_
      simp only [Act.put, List.setIfInBounds_toArray, List.set_cons_zero, List.set_cons_succ]
      refine rgTakeS (i := 4) (N := some 53) (oi := { dst := some 53, op := Op.load 52 (Operand.tmp 52), type := 52, pos := "law.go:106", after := #[{ on := 3, ground := Ground.data }], guard := none }) (v := _) #[true, true, true, true, true, false, false] rfl rfl (by kernel_rfl) (by kernel_rfl) (fun _ _ _ h => h) (by first | exact yieldsRow (by rfl) _ _ rfl _ rfl (fun _ h => h.1) Try.underlying29 rfl (nm_szV kV _ _) | exact yieldsMid (by rfl) _ _ rfl bL (oL + q * 29) rfl (rA r) (fun _ h => h.2) Try.underlying52 rfl infoRen) hHeld ?_
      simp only [Act.put, List.setIfInBounds_toArray, List.set_cons_zero, List.set_cons_succ]
      refine rgCallC (i := 5) (N := some 54) (oi := { dst := some 54, op := Op.call { callee := Callee.value (Operand.func 18), args := #[Operand.tmp 49, Operand.tmp 53], argTypes := #[29, 52] }, type := 29, pos := "law.go:106", after := #[{ on := 0, ground := Ground.data }, { on := 4, ground := Ground.data }], guard := none }) #[true, true, true, true, true, true, false] rfl rfl (by kernel_rfl) (by rfl) (fun K hK => ?_)
      go_simp
      (go_at_call 18; refine (undo_v V A1 c1 r _ HX.out kV).mono ?_; rintro e w8 ⟨A2, c2, rfl, hx1, hA, hb⟩; have HNS := Lib.hid (neKeep2 HAS.out hA (Array.getElem?_eq_some_iff.1 H9.out).1); replace H9 := keepA H9 hb; replace H7 := keepA H7 hb; replace HX7 := Lib.hid (HX7.out.below hb); replace HW9 := Lib.hid (HW9.out.below hb); replace HB := keepB HB hb; clear HX; have HX := Lib.hid hx1; clear hx1 hA hb)
      refine hK.out _ _ ?_
      (try simp only [Act.put, List.setIfInBounds_toArray, List.set_cons_zero, List.set_cons_succ])
      clear hK K
      refine rgCallC (i := 6) (N := none) (oi := { dst := none, op := Op.store 29 (Operand.tmp 9) (Operand.tmp 54), type := 0, pos := "law.go:106", after := #[{ on := 5, ground := Ground.data }, { on := 5, ground := Ground.chain }, { on := 0, ground := Ground.phase }, { on := 1, ground := Ground.phase }, { on := 2, ground := Ground.phase }, { on := 3, ground := Ground.phase }, { on := 4, ground := Ground.phase }, { on := 5, ground := Ground.phase }], guard := none }) #[true, true, true, true, true, true, true] rfl rfl (by kernel_rfl) (by rfl) (fun K hK => ?_)
      (refine rgStore (by rfl) 29 _ _ rfl g9 rfl (nmA (unV V r) A2 c2) rfl H9.out (nm_szV (unV_ok kV r) _ _) (nm_eqV kV (unV_ok kV r) _ _ _ _) (nm_oneV _ _ _) ?_; intro w9 hz ho; replace H7 := keepAo H7 (by omega) ho; replace HX7 := Lib.hid (HX7.out.only2 ho (fun a e1 e2 => by have := hA7.out a e1 e2; omega)); replace HX := Lib.hid (HX.out.only2 ho HNS.out); replace HW9 := Lib.hid (HW9.out.only2 ho (fun a e1 e2 => by have := hB9.out a e1 e2; omega)); replace HB := keepBo HB (by omega) ho; clear H9; have H9 := Lib.hid hz; clear hz ho)
      refine hK.out _ _ ?_
      clear hK K
      refine rgDoneC (by kernel_rfl) ?_ _
      go_wp2
      go_roundg q
      case rel => exact ⟨(q : Int) - 1, unV V r, A2, c2, by go_num, rfl, by omega, H9, H7, HX, HX7, HW9, HNS, unV_ok kV r, HBN, HB⟩
      case measure => omega
    | zero =>
      obtain rfl : z = -1 := by omega
      clear hz
      have hsm : V.Same F1 := HBK.out
      obtain ⟨s1, s2, s3, s4, s5, s6⟩ := hsm
      obtain ⟨m, d, n9, xs, h, N, s⟩ := V
      obtain ⟨m7, d7, n7, xs7, h7, N7, s7⟩ := F1
      simp only at s1 s2 s3 s4 s5 s6
      subst s1; subst s2; subst s3; subst s4; subst s5; subst s6
      have hm : m.length = 16 := kF1.m
      have hd : d.length = 16 := kF1.d
      have hnm : n9 ≤ 9223372036854775807 := kF1.n
      have q1 := equalMap m m hm hm
      have q2 := equalMap d d hd hd
      have e1 : (m == m) = true := beq_self_eq_true _
      have e2 : (d == d) = true := beq_self_eq_true _
      obtain ⟨KL, hKL⟩ : ∃ KL, ringL xs n9 h N = KL := ⟨_, rfl⟩
      have hK2 : KL.length ≤ 9223372036854775807 := by rw [← hKL]; have := ring_le xs n9 h N; omega
      have HK := Lib.hid hKL
      replace H9 : Hid (wr.heap[g9]? = some (.cells (nm m d (.slice A1 n9 c1) h N s) 29 (0, 0))) := H9
      replace H7 : Hid (wr.heap[g7]? = some (.cells (nm m d (.slice A7 n9 c7) h N s7) 29 (0, 0))) := H7
      replace HX : Hid (RdA .i64 wr A1 n9 xs) := HX
      replace HX7 : Hid (RdA .i64 wr A7 n9 xs) := HX7
      clear hKL HBK HAS kV hA7 hA77 hA9
      go_wp2
      replace H9 := keepA1 H9
      replace H7 := keepA1 H7
      replace HX := Lib.hid (HX.out.drew 1)
      replace HX7 := Lib.hid (HX7.out.drew 1)
      replace HB := keepB1 HB
      refine rgStart (S := (fun w' => w'.heap[g9]? = some (.cells (nm m d (.slice A1 n9 c1) h N s) 29 (0, 0)) ∧ w'.heap[g7]? = some (.cells (nm m d (.slice A7 n9 c7) h N s7) 29 (0, 0)))) (n := 25) #[false, false, false, false, false, false, false, false, false, false, false, false, false, false, false, false, false, false, false, false, false, false, false, false, false] (by kernel_rfl) rfl rfl ⟨H9.out, H7.out⟩ (fun hHeld => ?_)
      refine rgTake (i := 0) (N := some 55) (oi := { dst := some 55, op := Op.fieldAddr 29 (Operand.tmp 9) 0, type := 0, pos := "law.go:108", after := #[], guard := none }) (v := ?_) #[true, false, false, false, false, false, false, false, false, false, false, false, false, false, false, false, false, false, false, false, false, false, false, false, false] rfl rfl (by kernel_rfl) (fun _ _ _ h => h) (Or.inl ⟨by rfl, ?_⟩) hHeld ?_
      rotate_left
      · intro w' hSw; (try dsimp only at hSw); skip; go_simp; try with_reducible rfl
      simp only [Act.put, List.setIfInBounds_toArray, List.set_cons_zero, List.set_cons_succ]
      refine rgTake (i := 1) (N := some 56) (oi := { dst := some 56, op := Op.load 23 (Operand.tmp 55), type := 23, pos := "law.go:108", after := #[{ on := 0, ground := Ground.data }], guard := none }) (v := _) #[true, true, false, false, false, false, false, false, false, false, false, false, false, false, false, false, false, false, false, false, false, false, false, false, false] rfl rfl (by kernel_rfl) (fun _ _ _ h => h) (by first | exact yieldsMid (by rfl) _ _ rfl g9 0 rfl (ma .i64 m) (fun _ hh => nm_map hh.1) Try.underlying23 rfl (szM hm) | exact yieldsMid (by rfl) _ _ rfl g7 0 rfl (ma .i64 m) (fun _ hh => nm_map hh.2) Try.underlying23 rfl (szM hm) | exact yieldsMid (by rfl) _ _ rfl g9 16 rfl (ma .i64 d) (fun _ hh => nm_done hm hh.1) Try.underlying23 rfl (szM hd) | exact yieldsMid (by rfl) _ _ rfl g7 16 rfl (ma .i64 d) (fun _ hh => nm_done hm hh.2) Try.underlying23 rfl (szM hd) | exact yieldsMid (by rfl) _ _ rfl g9 32 rfl #[.slice A1 n9 c1, .int .i64 h, .int .i64 N] (fun _ hh => nm_free hm hd hh.1) Try.underlying26 rfl infoFr | exact yieldsMid (by rfl) _ _ rfl g7 32 rfl #[.slice A7 n9 c7, .int .i64 h, .int .i64 N] (fun _ hh => nm_free hm hd hh.2) Try.underlying26 rfl infoFr) hHeld ?_
      simp only [Act.put, List.setIfInBounds_toArray, List.set_cons_zero, List.set_cons_succ]
      refine rgTake (i := 2) (N := some 57) (oi := { dst := some 57, op := Op.fieldAddr 29 (Operand.tmp 7) 0, type := 0, pos := "law.go:108", after := #[], guard := none }) (v := ?_) #[true, true, true, false, false, false, false, false, false, false, false, false, false, false, false, false, false, false, false, false, false, false, false, false, false] rfl rfl (by kernel_rfl) (fun _ _ _ h => h) (Or.inl ⟨by rfl, ?_⟩) hHeld ?_
      rotate_left
      · intro w' hSw; (try dsimp only at hSw); skip; go_simp; try with_reducible rfl
      simp only [Act.put, List.setIfInBounds_toArray, List.set_cons_zero, List.set_cons_succ]
      refine rgTake (i := 3) (N := some 58) (oi := { dst := some 58, op := Op.load 23 (Operand.tmp 57), type := 23, pos := "law.go:108", after := #[{ on := 2, ground := Ground.data }], guard := none }) (v := _) #[true, true, true, true, false, false, false, false, false, false, false, false, false, false, false, false, false, false, false, false, false, false, false, false, false] rfl rfl (by kernel_rfl) (fun _ _ _ h => h) (by first | exact yieldsMid (by rfl) _ _ rfl g9 0 rfl (ma .i64 m) (fun _ hh => nm_map hh.1) Try.underlying23 rfl (szM hm) | exact yieldsMid (by rfl) _ _ rfl g7 0 rfl (ma .i64 m) (fun _ hh => nm_map hh.2) Try.underlying23 rfl (szM hm) | exact yieldsMid (by rfl) _ _ rfl g9 16 rfl (ma .i64 d) (fun _ hh => nm_done hm hh.1) Try.underlying23 rfl (szM hd) | exact yieldsMid (by rfl) _ _ rfl g7 16 rfl (ma .i64 d) (fun _ hh => nm_done hm hh.2) Try.underlying23 rfl (szM hd) | exact yieldsMid (by rfl) _ _ rfl g9 32 rfl #[.slice A1 n9 c1, .int .i64 h, .int .i64 N] (fun _ hh => nm_free hm hd hh.1) Try.underlying26 rfl infoFr | exact yieldsMid (by rfl) _ _ rfl g7 32 rfl #[.slice A7 n9 c7, .int .i64 h, .int .i64 N] (fun _ hh => nm_free hm hd hh.2) Try.underlying26 rfl infoFr) hHeld ?_
      simp only [Act.put, List.setIfInBounds_toArray, List.set_cons_zero, List.set_cons_succ]
      refine rgTake (i := 4) (N := some 59) (oi := { dst := some 59, op := Op.binOp BinOp.eql 23 (Operand.tmp 56) (Operand.tmp 58) 23, type := 4, pos := "law.go:108", after := #[{ on := 1, ground := Ground.data }, { on := 3, ground := Ground.data }], guard := none }) (v := ?_) #[true, true, true, true, true, false, false, false, false, false, false, false, false, false, false, false, false, false, false, false, false, false, false, false, false] rfl rfl (by kernel_rfl) (fun _ _ _ h => h) (Or.inl ⟨by rfl, ?_⟩) hHeld ?_
      rotate_left
      · intro w' hSw; (try dsimp only at hSw); skip; go_simp; try with_reducible rfl
      simp only [Act.put, List.setIfInBounds_toArray, List.set_cons_zero, List.set_cons_succ]
      refine rgTake (i := 5) (N := some 60) (oi := { dst := some 60, op := Op.move (Operand.tmp 59), type := 4, pos := "law.go:108", after := #[{ on := 4, ground := Ground.data }], guard := none }) (v := ?_) #[true, true, true, true, true, true, false, false, false, false, false, false, false, false, false, false, false, false, false, false, false, false, false, false, false] rfl rfl (by kernel_rfl) (fun _ _ _ h => h) (Or.inl ⟨by rfl, ?_⟩) hHeld ?_
      rotate_left
      · intro w' hSw; (try dsimp only at hSw); skip; go_simp; try with_reducible rfl
      simp only [Act.put, List.setIfInBounds_toArray, List.set_cons_zero, List.set_cons_succ]
      refine rgTake (i := 6) (N := some 61) (oi := { dst := some 61, op := Op.fieldAddr 29 (Operand.tmp 9) 1, type := 0, pos := "law.go:108", after := #[{ on := 5, ground := Ground.guard }], guard := some (5, true) }) (v := ?_) #[true, true, true, true, true, true, true, false, false, false, false, false, false, false, false, false, false, false, false, false, false, false, false, false, false] rfl rfl (by kernel_rfl) (fun _ _ _ h => h) (Or.inl ⟨by rfl, ?_⟩) hHeld ?_
      rotate_left
      · intro w' hSw; (try dsimp only at hSw); skip; go_simp; try with_reducible rfl
      simp only [Act.put, List.setIfInBounds_toArray, List.set_cons_zero, List.set_cons_succ]
      refine rgTake (i := 7) (N := some 62) (oi := { dst := some 62, op := Op.load 23 (Operand.tmp 61), type := 23, pos := "law.go:108", after := #[{ on := 6, ground := Ground.data }, { on := 5, ground := Ground.guard }], guard := some (5, true) }) (v := _) #[true, true, true, true, true, true, true, true, false, false, false, false, false, false, false, false, false, false, false, false, false, false, false, false, false] rfl rfl (by kernel_rfl) (fun _ _ _ h => h) (by first | exact yieldsMid (by rfl) _ _ rfl g9 0 rfl (ma .i64 m) (fun _ hh => nm_map hh.1) Try.underlying23 rfl (szM hm) | exact yieldsMid (by rfl) _ _ rfl g7 0 rfl (ma .i64 m) (fun _ hh => nm_map hh.2) Try.underlying23 rfl (szM hm) | exact yieldsMid (by rfl) _ _ rfl g9 16 rfl (ma .i64 d) (fun _ hh => nm_done hm hh.1) Try.underlying23 rfl (szM hd) | exact yieldsMid (by rfl) _ _ rfl g7 16 rfl (ma .i64 d) (fun _ hh => nm_done hm hh.2) Try.underlying23 rfl (szM hd) | exact yieldsMid (by rfl) _ _ rfl g9 32 rfl #[.slice A1 n9 c1, .int .i64 h, .int .i64 N] (fun _ hh => nm_free hm hd hh.1) Try.underlying26 rfl infoFr | exact yieldsMid (by rfl) _ _ rfl g7 32 rfl #[.slice A7 n9 c7, .int .i64 h, .int .i64 N] (fun _ hh => nm_free hm hd hh.2) Try.underlying26 rfl infoFr) hHeld ?_
      simp only [Act.put, List.setIfInBounds_toArray, List.set_cons_zero, List.set_cons_succ]
      refine rgTake (i := 8) (N := some 63) (oi := { dst := some 63, op := Op.fieldAddr 29 (Operand.tmp 7) 1, type := 0, pos := "law.go:108", after := #[{ on := 5, ground := Ground.guard }], guard := some (5, true) }) (v := ?_) #[true, true, true, true, true, true, true, true, true, false, false, false, false, false, false, false, false, false, false, false, false, false, false, false, false] rfl rfl (by kernel_rfl) (fun _ _ _ h => h) (Or.inl ⟨by rfl, ?_⟩) hHeld ?_
      rotate_left
      · intro w' hSw; (try dsimp only at hSw); skip; go_simp; try with_reducible rfl
      simp only [Act.put, List.setIfInBounds_toArray, List.set_cons_zero, List.set_cons_succ]
      refine rgTake (i := 9) (N := some 64) (oi := { dst := some 64, op := Op.load 23 (Operand.tmp 63), type := 23, pos := "law.go:108", after := #[{ on := 8, ground := Ground.data }, { on := 5, ground := Ground.guard }], guard := some (5, true) }) (v := _) #[true, true, true, true, true, true, true, true, true, true, false, false, false, false, false, false, false, false, false, false, false, false, false, false, false] rfl rfl (by kernel_rfl) (fun _ _ _ h => h) (by first | exact yieldsMid (by rfl) _ _ rfl g9 0 rfl (ma .i64 m) (fun _ hh => nm_map hh.1) Try.underlying23 rfl (szM hm) | exact yieldsMid (by rfl) _ _ rfl g7 0 rfl (ma .i64 m) (fun _ hh => nm_map hh.2) Try.underlying23 rfl (szM hm) | exact yieldsMid (by rfl) _ _ rfl g9 16 rfl (ma .i64 d) (fun _ hh => nm_done hm hh.1) Try.underlying23 rfl (szM hd) | exact yieldsMid (by rfl) _ _ rfl g7 16 rfl (ma .i64 d) (fun _ hh => nm_done hm hh.2) Try.underlying23 rfl (szM hd) | exact yieldsMid (by rfl) _ _ rfl g9 32 rfl #[.slice A1 n9 c1, .int .i64 h, .int .i64 N] (fun _ hh => nm_free hm hd hh.1) Try.underlying26 rfl infoFr | exact yieldsMid (by rfl) _ _ rfl g7 32 rfl #[.slice A7 n9 c7, .int .i64 h, .int .i64 N] (fun _ hh => nm_free hm hd hh.2) Try.underlying26 rfl infoFr) hHeld ?_
      simp only [Act.put, List.setIfInBounds_toArray, List.set_cons_zero, List.set_cons_succ]
      refine rgTake (i := 10) (N := some 65) (oi := { dst := some 65, op := Op.binOp BinOp.eql 23 (Operand.tmp 62) (Operand.tmp 64) 23, type := 4, pos := "law.go:108", after := #[{ on := 7, ground := Ground.data }, { on := 9, ground := Ground.data }, { on := 5, ground := Ground.guard }], guard := some (5, true) }) (v := ?_) #[true, true, true, true, true, true, true, true, true, true, true, false, false, false, false, false, false, false, false, false, false, false, false, false, false] rfl rfl (by kernel_rfl) (fun _ _ _ h => h) (Or.inl ⟨by rfl, ?_⟩) hHeld ?_
      rotate_left
      · intro w' hSw; (try dsimp only at hSw); skip; go_simp; try with_reducible rfl
      simp only [Act.put, List.setIfInBounds_toArray, List.set_cons_zero, List.set_cons_succ]
      refine rgTake (i := 11) (N := some 66) (oi := { dst := some 66, op := Op.pick (Operand.tmp 60) (Operand.tmp 65) (Operand.const (Value.bool false)), type := 4, pos := "law.go:108", after := #[{ on := 5, ground := Ground.data }, { on := 10, ground := Ground.data }], guard := none }) (v := ?_) #[true, true, true, true, true, true, true, true, true, true, true, true, false, false, false, false, false, false, false, false, false, false, false, false, false] rfl rfl (by kernel_rfl) (fun _ _ _ h => h) (Or.inl ⟨by rfl, ?_⟩) hHeld ?_
      rotate_left
      · intro w' hSw; (try dsimp only at hSw); skip; go_simp; try with_reducible rfl
      simp only [Act.put, List.setIfInBounds_toArray, List.set_cons_zero, List.set_cons_succ]
      refine rgTake (i := 12) (N := some 67) (oi := { dst := some 67, op := Op.move (Operand.tmp 66), type := 4, pos := "law.go:108", after := #[{ on := 11, ground := Ground.data }, { on := 5, ground := Ground.chain }], guard := none }) (v := ?_) #[true, true, true, true, true, true, true, true, true, true, true, true, true, false, false, false, false, false, false, false, false, false, false, false, false] rfl rfl (by kernel_rfl) (fun _ _ _ h => h) (Or.inl ⟨by rfl, ?_⟩) hHeld ?_
      rotate_left
      · intro w' hSw; (try dsimp only at hSw); skip; go_simp; try with_reducible rfl
      simp only [Act.put, List.setIfInBounds_toArray, List.set_cons_zero, List.set_cons_succ]
      refine rgTake (i := 13) (N := some 68) (oi := { dst := some 68, op := Op.fieldAddr 29 (Operand.tmp 9) 2, type := 0, pos := "law.go:108", after := #[{ on := 12, ground := Ground.guard }], guard := some (12, true) }) (v := ?_) #[true, true, true, true, true, true, true, true, true, true, true, true, true, true, false, false, false, false, false, false, false, false, false, false, false] rfl rfl (by kernel_rfl) (fun _ _ _ h => h) (Or.inl ⟨by rfl, ?_⟩) hHeld ?_
      rotate_left
      · intro w' hSw; (try dsimp only at hSw); skip; go_simp; try with_reducible rfl
      simp only [Act.put, List.setIfInBounds_toArray, List.set_cons_zero, List.set_cons_succ]
      refine rgTake (i := 14) (N := some 69) (oi := { dst := some 69, op := Op.load 26 (Operand.tmp 68), type := 26, pos := "law.go:108", after := #[{ on := 13, ground := Ground.data }, { on := 12, ground := Ground.guard }], guard := some (12, true) }) (v := _) #[true, true, true, true, true, true, true, true, true, true, true, true, true, true, true, false, false, false, false, false, false, false, false, false, false] rfl rfl (by kernel_rfl) (fun _ _ _ h => h) (by first | exact yieldsMid (by rfl) _ _ rfl g9 0 rfl (ma .i64 m) (fun _ hh => nm_map hh.1) Try.underlying23 rfl (szM hm) | exact yieldsMid (by rfl) _ _ rfl g7 0 rfl (ma .i64 m) (fun _ hh => nm_map hh.2) Try.underlying23 rfl (szM hm) | exact yieldsMid (by rfl) _ _ rfl g9 16 rfl (ma .i64 d) (fun _ hh => nm_done hm hh.1) Try.underlying23 rfl (szM hd) | exact yieldsMid (by rfl) _ _ rfl g7 16 rfl (ma .i64 d) (fun _ hh => nm_done hm hh.2) Try.underlying23 rfl (szM hd) | exact yieldsMid (by rfl) _ _ rfl g9 32 rfl #[.slice A1 n9 c1, .int .i64 h, .int .i64 N] (fun _ hh => nm_free hm hd hh.1) Try.underlying26 rfl infoFr | exact yieldsMid (by rfl) _ _ rfl g7 32 rfl #[.slice A7 n9 c7, .int .i64 h, .int .i64 N] (fun _ hh => nm_free hm hd hh.2) Try.underlying26 rfl infoFr) hHeld ?_
      simp only [Act.put, List.setIfInBounds_toArray, List.set_cons_zero, List.set_cons_succ]
      refine rgTake (i := 16) (N := some 71) (oi := { dst := some 71, op := Op.fieldAddr 29 (Operand.tmp 7) 2, type := 0, pos := "law.go:108", after := #[{ on := 12, ground := Ground.guard }], guard := some (12, true) }) (v := ?_) #[true, true, true, true, true, true, true, true, true, true, true, true, true, true, true, false, true, false, false, false, false, false, false, false, false] rfl rfl (by kernel_rfl) (fun _ _ _ h => h) (Or.inl ⟨by rfl, ?_⟩) hHeld ?_
      rotate_left
      · intro w' hSw; (try dsimp only at hSw); skip; go_simp; try with_reducible rfl
      simp only [Act.put, List.setIfInBounds_toArray, List.set_cons_zero, List.set_cons_succ]
      refine rgTake (i := 17) (N := some 72) (oi := { dst := some 72, op := Op.load 26 (Operand.tmp 71), type := 26, pos := "law.go:108", after := #[{ on := 16, ground := Ground.data }, { on := 12, ground := Ground.guard }], guard := some (12, true) }) (v := _) #[true, true, true, true, true, true, true, true, true, true, true, true, true, true, true, false, true, true, false, false, false, false, false, false, false] rfl rfl (by kernel_rfl) (fun _ _ _ h => h) (by first | exact yieldsMid (by rfl) _ _ rfl g9 0 rfl (ma .i64 m) (fun _ hh => nm_map hh.1) Try.underlying23 rfl (szM hm) | exact yieldsMid (by rfl) _ _ rfl g7 0 rfl (ma .i64 m) (fun _ hh => nm_map hh.2) Try.underlying23 rfl (szM hm) | exact yieldsMid (by rfl) _ _ rfl g9 16 rfl (ma .i64 d) (fun _ hh => nm_done hm hh.1) Try.underlying23 rfl (szM hd) | exact yieldsMid (by rfl) _ _ rfl g7 16 rfl (ma .i64 d) (fun _ hh => nm_done hm hh.2) Try.underlying23 rfl (szM hd) | exact yieldsMid (by rfl) _ _ rfl g9 32 rfl #[.slice A1 n9 c1, .int .i64 h, .int .i64 N] (fun _ hh => nm_free hm hd hh.1) Try.underlying26 rfl infoFr | exact yieldsMid (by rfl) _ _ rfl g7 32 rfl #[.slice A7 n9 c7, .int .i64 h, .int .i64 N] (fun _ hh => nm_free hm hd hh.2) Try.underlying26 rfl infoFr) hHeld ?_
      simp only [Act.put, List.setIfInBounds_toArray, List.set_cons_zero, List.set_cons_succ]
      refine rgCall (i := 15) (N := some 70) (oi := { dst := some 70, op := Op.call { callee := Callee.value (Operand.func 23), args := #[Operand.tmp 69], argTypes := #[26] }, type := 24, pos := "law.go:108", after := #[{ on := 14, ground := Ground.data }, { on := 12, ground := Ground.chain }, { on := 12, ground := Ground.guard }], guard := some (12, true) }) #[true, true, true, true, true, true, true, true, true, true, true, true, true, true, true, true, true, true, false, false, false, false, false, false, false] rfl rfl (by kernel_rfl) (fun K hK => ?_)
      go_simp
      (go_at_call 23; first | (have hq := HX5; clear hq; refine (list_any A7 n9 c7 h N xs _ HX7.out hnm).mono ?_; rintro e w10 ⟨⟨A6, c6, rfl, hr⟩, hb⟩; rw [HK.out] at hr ⊢; replace H9 := keepA H9 hb; replace H7 := keepA H7 hb; replace HX7 := Lib.hid (HX7.out.below hb); replace HB := keepB HB hb; replace HX5 := Lib.hid (HX5.out.below hb); have HX6 := Lib.hid hr; clear hr) | (refine (list_any A1 n9 c1 h N xs _ HX.out hnm).mono ?_; rintro e w11 ⟨⟨A5, c5, rfl, hr⟩, hb⟩; rw [HK.out] at hr ⊢; replace H9 := keepA H9 hb; replace H7 := keepA H7 hb; replace HX7 := Lib.hid (HX7.out.below hb); replace HB := keepB HB hb; have HX5 := Lib.hid hr; clear hr))
      refine hK.out _ _ ⟨H9.out, H7.out⟩ (fun hHeld => ?_)
      (try simp only [Act.put, List.setIfInBounds_toArray, List.set_cons_zero, List.set_cons_succ])
      clear hK K
      refine rgCall (i := 18) (N := some 73) (oi := { dst := some 73, op := Op.call { callee := Callee.value (Operand.func 23), args := #[Operand.tmp 72], argTypes := #[26] }, type := 24, pos := "law.go:108", after := #[{ on := 17, ground := Ground.data }, { on := 15, ground := Ground.chain }, { on := 12, ground := Ground.guard }], guard := some (12, true) }) #[true, true, true, true, true, true, true, true, true, true, true, true, true, true, true, true, true, true, true, false, false, false, false, false, false] rfl rfl (by kernel_rfl) (fun K hK => ?_)
      go_simp
      (go_at_call 23; first | (have hq := HX5; clear hq; refine (list_any A7 n9 c7 h N xs _ HX7.out hnm).mono ?_; rintro e w10 ⟨⟨A6, c6, rfl, hr⟩, hb⟩; rw [HK.out] at hr ⊢; replace H9 := keepA H9 hb; replace H7 := keepA H7 hb; replace HX7 := Lib.hid (HX7.out.below hb); replace HB := keepB HB hb; replace HX5 := Lib.hid (HX5.out.below hb); have HX6 := Lib.hid hr; clear hr) | (refine (list_any A1 n9 c1 h N xs _ HX.out hnm).mono ?_; rintro e w11 ⟨⟨A5, c5, rfl, hr⟩, hb⟩; rw [HK.out] at hr ⊢; replace H9 := keepA H9 hb; replace H7 := keepA H7 hb; replace HX7 := Lib.hid (HX7.out.below hb); replace HB := keepB HB hb; have HX5 := Lib.hid hr; clear hr))
      refine hK.out _ _ ⟨H9.out, H7.out⟩ (fun hHeld => ?_)
      (try simp only [Act.put, List.setIfInBounds_toArray, List.set_cons_zero, List.set_cons_succ])
      clear hK K
      refine rgCall (i := 19) (N := some 74) (oi := { dst := some 74, op := Op.call { callee := Callee.value (Operand.func 22), args := #[Operand.tmp 70, Operand.tmp 73], argTypes := #[24, 24] }, type := 4, pos := "law.go:108", after := #[{ on := 15, ground := Ground.data }, { on := 18, ground := Ground.data }, { on := 18, ground := Ground.chain }, { on := 12, ground := Ground.guard }], guard := some (12, true) }) #[true, true, true, true, true, true, true, true, true, true, true, true, true, true, true, true, true, true, true, true, false, false, false, false, false] rfl rfl (by kernel_rfl) (fun K hK => ?_)
      go_simp
      (go_at_call 22; refine (ints_any A5 A6 KL.length c5 c6 KL _ HX5.out HX6.out hK2).mono ?_; rintro e w12 ⟨rfl, hb⟩; replace H9 := keepA H9 hb; replace H7 := keepA H7 hb; replace HX7 := Lib.hid (HX7.out.below hb); replace HB := keepB HB hb)
      refine hK.out _ _ ⟨H9.out, H7.out⟩ (fun hHeld => ?_)
      (try simp only [Act.put, List.setIfInBounds_toArray, List.set_cons_zero, List.set_cons_succ])
      clear hK K
      refine rgTake (i := 20) (N := some 75) (oi := { dst := some 75, op := Op.pick (Operand.tmp 67) (Operand.tmp 74) (Operand.const (Value.bool false)), type := 4, pos := "law.go:108", after := #[{ on := 12, ground := Ground.data }, { on := 19, ground := Ground.data }], guard := none }) (v := ?_) #[true, true, true, true, true, true, true, true, true, true, true, true, true, true, true, true, true, true, true, true, true, false, false, false, false] rfl rfl (by kernel_rfl) (fun _ _ _ h => h) (Or.inl ⟨by rfl, ?_⟩) hHeld ?_
      rotate_left
      · intro w' hSw; (try dsimp only at hSw); skip; go_simp; try with_reducible rfl
      simp only [Act.put, List.setIfInBounds_toArray, List.set_cons_zero, List.set_cons_succ]
      refine rgTake (i := 21) (N := some 76) (oi := { dst := some 76, op := Op.move (Operand.tmp 75), type := 4, pos := "law.go:108", after := #[{ on := 20, ground := Ground.data }, { on := 19, ground := Ground.chain }], guard := none }) (v := ?_) #[true, true, true, true, true, true, true, true, true, true, true, true, true, true, true, true, true, true, true, true, true, true, false, false, false] rfl rfl (by kernel_rfl) (fun _ _ _ h => h) (Or.inl ⟨by rfl, ?_⟩) hHeld ?_
      rotate_left
      · intro w' hSw; (try dsimp only at hSw); skip; go_simp; try with_reducible rfl
      simp only [Act.put, List.setIfInBounds_toArray, List.set_cons_zero, List.set_cons_succ]
      refine rgCall (i := 22) (N := some 77) (oi := { dst := some 77, op := Op.call { callee := Callee.value (Operand.func 9), args := #[], argTypes := #[] }, type := 4, pos := "law.go:108", after := #[{ on := 21, ground := Ground.chain }, { on := 21, ground := Ground.guard }], guard := some (21, true) }) #[true, true, true, true, true, true, true, true, true, true, true, true, true, true, true, true, true, true, true, true, true, true, true, false, false] rfl rfl (by kernel_rfl) (fun K hK => ?_)
      go_simp
      (go_at_call 9; refine (awake_any _).mono ?_; rintro e w13 ⟨rfl, hb⟩; replace H9 := keepA H9 hb; replace H7 := keepA H7 hb; replace HX7 := Lib.hid (HX7.out.below hb); replace HB := keepB HB hb)
      refine hK.out _ _ ⟨H9.out, H7.out⟩ (fun hHeld => ?_)
      (try simp only [Act.put, List.setIfInBounds_toArray, List.set_cons_zero, List.set_cons_succ])
      clear hK K
      refine rgTake (i := 23) (N := some 78) (oi := { dst := some 78, op := Op.pick (Operand.tmp 76) (Operand.tmp 77) (Operand.const (Value.bool false)), type := 4, pos := "law.go:108", after := #[{ on := 21, ground := Ground.data }, { on := 22, ground := Ground.data }], guard := none }) (v := ?_) #[true, true, true, true, true, true, true, true, true, true, true, true, true, true, true, true, true, true, true, true, true, true, true, true, false] rfl rfl (by kernel_rfl) (fun _ _ _ h => h) (Or.inl ⟨by rfl, ?_⟩) hHeld ?_
      rotate_left
      · intro w' hSw; (try dsimp only at hSw); skip; go_simp; try with_reducible rfl
      simp only [Act.put, List.setIfInBounds_toArray, List.set_cons_zero, List.set_cons_succ]
      refine rgTake (i := 24) (N := some 6) (oi := { dst := some 6, op := Op.assign (Operand.tmp 78), type := 4, pos := "law.go:108", after := #[{ on := 23, ground := Ground.data }, { on := 22, ground := Ground.chain }, { on := 0, ground := Ground.phase }, { on := 1, ground := Ground.phase }, { on := 2, ground := Ground.phase }, { on := 3, ground := Ground.phase }, { on := 4, ground := Ground.phase }, { on := 5, ground := Ground.phase }, { on := 6, ground := Ground.phase }, { on := 7, ground := Ground.phase }, { on := 8, ground := Ground.phase }, { on := 9, ground := Ground.phase }, { on := 10, ground := Ground.phase }, { on := 11, ground := Ground.phase }, { on := 12, ground := Ground.phase }, { on := 13, ground := Ground.phase }, { on := 14, ground := Ground.phase }, { on := 15, ground := Ground.phase }, { on := 16, ground := Ground.phase }, { on := 17, ground := Ground.phase }, { on := 18, ground := Ground.phase }, { on := 19, ground := Ground.phase }, { on := 20, ground := Ground.phase }, { on := 21, ground := Ground.phase }, { on := 22, ground := Ground.phase }, { on := 23, ground := Ground.phase }], guard := none }) (v := ?_) #[true, true, true, true, true, true, true, true, true, true, true, true, true, true, true, true, true, true, true, true, true, true, true, true, true] rfl rfl (by kernel_rfl) (fun _ _ _ h => h) (Or.inl ⟨by rfl, ?_⟩) hHeld ?_
      rotate_left
      · intro w' hSw; (try dsimp only at hSw); skip; go_simp; try with_reducible rfl
      simp only [Act.put, List.setIfInBounds_toArray, List.set_cons_zero, List.set_cons_succ]
      refine rgDone (by kernel_rfl) ?_ _
      go_wp2
      go_ret
      exact ⟨rfl, HB.out.1⟩
theorem renback_any (n : Int) (L1 L2 : Option Addr) (k1 k2 : Nat) (us ls : List UopV) (w : World) (hl1 : RwA w L1 23 us.length (us.map uA)) (hl2 : RwA w L2 23 ls.length (ls.map uA)) (hm1 : us.length ≤ 9223372036854775807) (hm2 : ls.length ≤ 9223372036854775807) : Calls Try.prog 5 #[.int .i64 n, .slice L1 us.length k1, .slice L2 ls.length k2] w fun e w' => e = .returned (.bool true) ∧ Below w.heap.size w w' := by
  by_cases h1 : n < 17
  · exact back_off n L1 L2 k1 k2 _ _ w hm1 hm2 (.inl h1)
  · by_cases h2 : 96 < n
    · exact back_off n L1 L2 k1 k2 _ _ w hm1 hm2 (.inr (.inl h2))
    · by_cases h3 : 40 < us.length
      · exact back_off n L1 L2 k1 k2 _ _ w hm1 hm2 (.inr (.inr (.inl h3)))
      · by_cases h4 : 40 < ls.length
        · exact back_off n L1 L2 k1 k2 _ _ w hm1 hm2 (.inr (.inr (.inr h4)))
        · have s1 := grp_sd us (nwV_sd n)
          exact back_walk n (nwV n) (grp (nwV n) us).1 (grp (grp (nwV n) us).1 ls).1 us ls (grp (grp (nwV n) us).1 ls).2 (grp (nwV n) us).2 (nwV_ok n) (grp_ok (nwV_ok n)) (grp_ok (grp_ok (nwV_ok n))) (by have := grp_len ls (grp (nwV n) us).1; omega) h1 h2 h3 h4 (grp_back ls s1)
            (new_v n) (fun A L c kL w a b => group_any (nwV n) A L c kL us w a (nwV_ok n) b (by omega)) (fun A L c kL w a b => group_any (grp (nwV n) us).1 A L c kL ls w a (grp_ok (nwV_ok n)) b (by omega)) L1 L2 k1 k2 w hl1 hl2
end Go.Proofs.Ytpgighhnhidpcaa.My
