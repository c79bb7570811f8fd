/- Walk: the chapter's examples. -/
import Derived.Test.YtnlghbnehfgobaaDoorTextRParseW
import Derived.Test.YtnlghbnehfgobaaDoorTextCause
import Derived.Laws.StructEq
set_option linter.unusedVariables false
set_option linter.unusedSimpArgs false
namespace Go.Proofs.YtnlghbnehfgobaaDoor.My
open Go.RowKit
theorem eqInst (x : Nat) (a b c d e : Int) (w : World) : (Op.equalIn (x + 2) 27 (.agg #[.int .i64 a, .int .i64 b, .int .i64 c, .int .i64 d, .int .i64 e]) (.agg #[.int .i64 a, .int .i64 b, .int .i64 c, .int .i64 d, .int .i64 e])).run Tryd.prog w = .ok true w := by
  go_simp
theorem eqInst_ne (x : Nat) (a b c d e a' b' c' d' e' : Int) (h : ¬ (a = a' ∧ b = b' ∧ c = c' ∧ d = d' ∧ e = e')) (w : World) : (Op.equalIn (x + 2) 27 (.agg #[.int .i64 a, .int .i64 b, .int .i64 c, .int .i64 d, .int .i64 e]) (.agg #[.int .i64 a', .int .i64 b', .int .i64 c', .int .i64 d', .int .i64 e'])).run Tryd.prog w = .ok false w := by
  by_cases h1 : a = a'
  · subst h1
    by_cases h2 : b = b'
    · subst h2
      by_cases h3 : c = c'
      · subst h3
        by_cases h4 : d = d'
        · subst h4
          have h5 : (e == e') = false := beq_eq_false_iff_ne.2 (fun q => h ⟨rfl, rfl, rfl, rfl, q⟩)
          clear h
          go_simp
        · have h5 : (d == d') = false := beq_eq_false_iff_ne.2 h4
          clear h h4
          go_simp
      · have h5 : (c == c') = false := beq_eq_false_iff_ne.2 h3
        clear h h3
        go_simp
    · have h5 : (b == b') = false := beq_eq_false_iff_ne.2 h2
      clear h h2
      go_simp
  · have h5 : (a == a') = false := beq_eq_false_iff_ne.2 h1
    clear h h1
    go_simp
theorem eqlIn (op : Int) (q : Q4) (w : World) : (binOp .eql 27 (.agg (insQ op q)) (.agg (insQ op q))).run Tryd.prog w = .ok (.bool true) w := by
  rw [run_eql_struct, show (10000 : Nat) = 9998 + 2 from rfl]
  have := eqInst 9998 op q.rd q.ra q.rb q.im w
  unfold insQ insA
  rw [this]
  rfl
theorem neqIn (op : Int) (q : Q4) (w : World) : (binOp .neq 27 (.agg (insQ op q)) (.agg (insQ op q))).run Tryd.prog w = .ok (.bool false) w := by
  rw [run_neq_struct, show (10000 : Nat) = 9998 + 2 from rfl]
  have := eqInst 9998 op q.rd q.ra q.rb q.im w
  unfold insQ insA
  rw [this]
  rfl
theorem neqIn_ne (a b : Int) (p q : Q4) (h : ¬ (a = b ∧ p = q)) (w : World) : (binOp .neq 27 (.agg (insQ a p)) (.agg (insQ b q))).run Tryd.prog w = .ok (.bool true) w := by
  rw [run_neq_struct, show (10000 : Nat) = 9998 + 2 from rfl]
  have := eqInst_ne 9998 a p.rd p.ra p.rb p.im b q.rd q.ra q.rb q.im (fun r => h ⟨r.1, by obtain ⟨p1, p2, p3, p4⟩ := p; obtain ⟨q1, q2, q3, q4⟩ := q; obtain ⟨_, r1, r2, r3, r4⟩ := r; simp only at r1 r2 r3 r4; rw [r1, r2, r3, r4]⟩) w
  unfold insQ insA
  rw [this]
  rfl
def egP : List UInt8 := [97, 100, 100, 105, 32, 114, 49, 44, 32, 114, 48, 44, 32, 45, 53]
theorem eg_print : printQ 25 ⟨1, 0, 0, -5⟩ = egP := by
  rw [print_right (by decide +kernel)]
  have h5 : digP 5 = [hd 5] := digP_one (by decide)
  have h1 : digP 1 = [hd 1] := digP_one (by decide)
  have h0 : digP 0 = [hd 0] := digP_one (by decide)
  have e : fieldsV (formV 25) = [100, 97, 105] := by decide +kernel
  have d5 : decL (-5) = [45, 53] := by
    unfold decL
    rw [if_pos (by decide)]
    show 45 :: digP 5 = _
    rw [h5]; rfl
  have d1 : decL 1 = [49] := by
    unfold decL
    rw [if_neg (by decide)]
    show digP 1 = _
    rw [h1]; rfl
  have d0 : decL 0 = [48] := by
    unfold decL
    rw [if_neg (by decide)]
    show digP 0 = _
    rw [h0]; rfl
  rw [e, if_neg (by simp)]
  have p1 : partW (Q4.at ⟨1, 0, 0, -5⟩) 100 = [114, 49] := by
    unfold partW
    rw [if_neg (by decide)]
    show 114 :: decL 1 = _
    rw [d1]
  have p2 : partW (Q4.at ⟨1, 0, 0, -5⟩) 97 = [114, 48] := by
    unfold partW
    rw [if_neg (by decide)]
    show 114 :: decL 0 = _
    rw [d0]
  have p3 : partW (Q4.at ⟨1, 0, 0, -5⟩) 105 = [45, 53] := by
    unfold partW
    rw [if_pos (by decide)]
    show decL (-5) = _
    rw [d5]
  rw [List.map_cons, List.map_cons, List.map_cons, List.map_nil, p1, p2, p3]
  decide +kernel
theorem eg_halt : printQ 61 q0 = [104, 97, 108, 116] := by
  rw [print_right (by decide +kernel)]
  decide +kernel
theorem eg_parse1 : parP [104, 97, 108, 116] = ⟨61, q0, 0⟩ := by
  have := par_print (op := 61) (q := q0) (by decide +kernel)
  rwa [eg_halt] at this
theorem eg_parse2 : parP [104, 97, 108, 116, 32] = ⟨0, q0, 2⟩ := by
  have h1 : headV [104, 97, 108, 116, 32] = [104, 97, 108, 116] := by decide +kernel
  have h2 : opV [104, 97, 108, 116] = 61 := by decide +kernel
  have h3 : fieldsV (formV ((61 : Nat) : Int)) = [] := by decide +kernel
  unfold parP
  rw [h1, h2, if_neg (by decide), h3]
  show doneV ((61 : Nat) : Int) q0 _ = _
  unfold doneV
  rw [if_neg (by rw [show ((61 : Nat) : Int) = 61 from rfl, eg_halt]; decide)]
theorem eg_ok : (⟨1, 0, 0, -5⟩ : Q4).ok := fun c => by
  show -9223372036854775808 ≤ valV 1 0 0 (-5) c ∧ valV 1 0 0 (-5) c ≤ 9223372036854775807
  unfold valV
  repeat' split
  all_goals decide
def St (m : Int) (w : World) : Prop := w.cell? ⟨3, 0, none⟩ = some (.int .i64 m) ∧ FieldsAt w ∧ Lib.TabIs Tryd.prog w "strings.asciiSpace" .u8 Lib.asciiSpaceTab
theorem St.below {m : Int} {w w' : World} (h : Hid (St m w)) (hb : Hid (Below w.heap.size w w' ∧ w.heap.size ≤ w'.heap.size)) : St m w' :=
  ⟨(hb.out.1.cell (World.block_lt_of_cell? w _ h.out.1)).trans h.out.1, h.out.2.1.below hb.out.1, tab_below h.out.2.2 hb.out.1⟩
theorem parse_st {m : Int} (s : List UInt8) (w : World) (hs : s.length ≤ 100000) (h : St m w) : Calls Tryd.prog 16 #[.string (bs s)] w fun e w' => e = .returned (.tuple #[.agg (insQ (parP s).op (parP s).q), .int .i64 (parP s).e]) ∧ Below w.heap.size w w' := tparse_any s m w hs h.2.2 h.2.1 h.1
theorem print_st {m : Int} (op : Int) (q : Q4) (w : World) (hq : q.ok) (h : St m w) : Calls Tryd.prog 13 #[.agg (insQ op q)] w fun e w' => e = .returned (.string (bs (printQ op q))) ∧ Below w.heap.size w w' := printq_any op q w hq h.2.2 h.2.1
set_option maxRecDepth 100000 in
set_option maxHeartbeats 4000000 in
theorem awake_any (m : Int) (w : World) (hS : St m w) : Calls Tryd.prog 8 #[] w fun e w' => e = .returned (.bool true) ∧ Below w.heap.size w w' := by
  have HB := startB w
  have HS := Lib.hid hS
  have C1 : Hid (∀ w', St m w' → Calls Tryd.prog 16 #[.string ⟨#[104, 97, 108, 116]⟩] w' fun e w'' => e = .returned (.tuple #[.agg (insQ 61 q0), .int .i64 0]) ∧ Below w'.heap.size w' w'') := Lib.hid (fun w' h => by
    have := parse_st [104, 97, 108, 116] w' (by decide) h
    rw [eg_parse1] at this
    exact this)
  have C2 : Hid (∀ w', St m w' → Calls Tryd.prog 16 #[.string ⟨#[104, 97, 108, 116, 32]⟩] w' fun e w'' => e = .returned (.tuple #[.agg (insQ 0 q0), .int .i64 2]) ∧ Below w'.heap.size w' w'') := Lib.hid (fun w' h => by
    have := parse_st [104, 97, 108, 116, 32] w' (by decide) h
    rw [eg_parse2] at this
    exact this)
  obtain ⟨T, hT⟩ : ∃ T, egP = T := ⟨_, rfl⟩
  have CP : Hid (∀ w', St m w' → Calls Tryd.prog 13 #[.agg (insQ 25 ⟨1, 0, 0, -5⟩)] w' fun e w'' => e = .returned (.string (bs T)) ∧ Below w'.heap.size w' w'') := Lib.hid (fun w' h => by
    have := print_st 25 ⟨1, 0, 0, -5⟩ w' eg_ok h
    rw [eg_print, hT] at this
    exact this)
  have q1 : ((bs T).toList == [97, 100, 100, 105, 32, 114, 49, 44, 32, 114, 48, 44, 32, 45, 53]) = true := by rw [toL, ← hT]; rfl
  obtain ⟨C, hC⟩ : ∃ C, causeV 9 = C := ⟨_, rfl⟩
  have HC := Lib.hid hC
  have q2 : ((bs C).toList == [98, 117, 115]) = true := by rw [toL, ← hC]; decide +kernel
  have q3 := eqlIn 61 q0
  clear hS hT hC
  go_enter Tryd.func8, Tryd.ntmps8
  go_upto_region 2 with (first | (refine wlAlloc (by rfl) 27 rfl (insA 0 0 0 0 0) zeroIn ?_; intro gA w1 hg hl ha hb; have HGA : Hid (w.heap.size ≤ gA) := Lib.hid (Nat.le_trans HB.out.2 hg); replace HB := keepB HB hb; have HA := Lib.hid ha; clear ha hb hg hl) | (refine wlBuild rfl 27 #[(0, _), (1, _), (4, _)] rfl (.agg (insQ 25 ⟨1, 0, 0, -5⟩)) (by kernel_rfl) ?_) | (refine rowStore (by rfl) 27 _ _ rfl gA rfl (insQ 25 ⟨1, 0, 0, -5⟩) rfl HA.out infoIn rfl (insQ_one _ _) ?_; intro w2 ha ho; replace HA := Lib.hid ha; replace HB := keepBo HB HGA.out ho; clear ha ho))
  go_upto_region 3 with (first | (go_at_call 16; refine (C1.out _ (St.below HS HB)).mono ?_; rintro e w3 ⟨rfl, hb⟩; replace HB := keepB HB hb; replace HA := keepA HA hb; clear hb) | (refine wlAlloc (by rfl) 27 rfl (insA 0 0 0 0 0) zeroIn ?_; intro gJ w4 hg hl ha hb; have HGJ : Hid (w.heap.size ≤ gJ) := Lib.hid (Nat.le_trans HB.out.2 hg); have HNJ : Hid (gA ≠ gJ) := Lib.hid (Nat.ne_of_lt (Nat.lt_of_lt_of_le (Array.getElem?_eq_some_iff.1 HA.out).1 hg)); replace HB := keepB HB hb; replace HA := keepA HA hb; have HJ := Lib.hid ha; clear ha hb hg hl) | (refine rowStore (by rfl) 27 _ _ rfl gJ rfl (insQ 61 q0) rfl HJ.out infoIn rfl (insQ_one _ _) ?_; intro w5 ha ho; replace HJ := Lib.hid ha; replace HA := keepAo HA HNJ.out ho; replace HB := keepBo HB HGJ.out ho; clear ha ho))
  go_upto_region 4 with (first | (go_at_call 16; refine (C2.out _ (St.below HS HB)).mono ?_; rintro e w6 ⟨rfl, hb⟩; replace HB := keepB HB hb; replace HA := keepA HA hb; replace HJ := keepA HJ hb; clear hb) | (refine wlAlloc (by rfl) 27 rfl (insA 0 0 0 0 0) zeroIn ?_; intro gK w7 hg hl ha hb; have HGK : Hid (w.heap.size ≤ gK) := Lib.hid (Nat.le_trans HB.out.2 hg); have HNK : Hid (gA ≠ gK) := Lib.hid (Nat.ne_of_lt (Nat.lt_of_lt_of_le (Array.getElem?_eq_some_iff.1 HA.out).1 hg)); have HMK : Hid (gJ ≠ gK) := Lib.hid (Nat.ne_of_lt (Nat.lt_of_lt_of_le (Array.getElem?_eq_some_iff.1 HJ.out).1 hg)); replace HB := keepB HB hb; replace HA := keepA HA hb; replace HJ := keepA HJ hb; have HK := Lib.hid ha; clear ha hb hg hl) | (refine rowStore (by rfl) 27 _ _ rfl gK rfl (insQ 0 q0) rfl HK.out infoIn rfl (insQ_one _ _) ?_; intro w8 ha ho; replace HK := Lib.hid ha; replace HA := keepAo HA HNK.out ho; replace HJ := keepAo HJ HMK.out ho; replace HB := keepBo HB HGK.out ho; clear ha ho))
  go_wp2_with (first | (refine rowLoad (by rfl) 27 _ rfl gA rfl (cs := insQ 25 ⟨1, 0, 0, -5⟩) HA.out Tryd.underlying27 rfl infoIn ?_) | (go_at_call 13; refine (CP.out _ (St.below HS HB)).mono ?_; rintro e w9 ⟨rfl, hb⟩; replace HB := keepB HB hb; replace HA := keepA HA hb; replace HJ := keepA HJ hb; clear hb) | (refine rowLoad (by rfl) 27 _ rfl gJ rfl (cs := insQ 61 q0) HJ.out Tryd.underlying27 rfl infoIn ?_) | (refine wlBuild rfl 27 #[(0, _)] rfl (.agg (insQ 61 q0)) (by kernel_rfl) ?_) | (go_at_call 18; refine (cause_any 9 _).mono ?_; rw [HC.out]; rintro e wa ⟨rfl, hb⟩; replace HB := keepB HB hb; clear hb))
  go_ret
  exact ⟨rfl, HB.out.1⟩
end Go.Proofs.YtnlghbnehfgobaaDoor.My
