/- Walk: a line read: the reference's. -/
import Derived.Test.YtnigkecpiolgeaaDoorRomReadA
set_option linter.unusedVariables false
set_option linter.unusedSimpArgs false
namespace Go.Proofs.YtnigkecpiolgeaaDoor.My
open Go.RowKit
theorem ext_head (l : List UInt8) (n : Nat) (p : List UInt8) : (((bs l).extract 0 n).toList == p) = (l.take n == p) := by
  rw [ext_bsT, text_eq]; simp
theorem head_no {l p : List UInt8} {n : Nat} (h : ¬ l.take n = p) : (((bs l).extract 0 n).toList == p) = false := by rw [ext_head]; exact beq_eq_false_iff_ne.2 h
theorem head_yes {l p : List UInt8} {n : Nat} (h : l.take n = p) : (((bs l).extract 0 n).toList == p) = true := by rw [ext_head]; exact beq_iff_eq.2 h
theorem hexN_pair (a b : UInt8) : optI (hexN [a, b] 0) = if hv (a.toNat : Int) < 0 ∨ hv (b.toNat : Int) < 0 then -1 else ((pairV a b).toNat : Int) := by
  rw [hexN]
  by_cases ha : hv (a.toNat : Int) < 0
  · rw [if_pos ha, if_pos (.inl ha)]; rfl
  · rw [if_neg ha, hexN]
    by_cases hb : hv (b.toNat : Int) < 0
    · rw [if_pos hb, if_pos (.inr hb)]; rfl
    · rw [if_neg hb, if_neg (by rintro (q | q); exact ha q; exact hb q), pair_nat ha hb]
      show ((16 * (16 * 0 + _) + _ : Nat) : Int) = _
      omega
set_option maxRecDepth 100000 in
set_option maxHeartbeats 16000000 in
theorem read_any (l : List UInt8) (w : World) (hl : l.length ≤ 1000000) (R : RowV) (hR : readV l = R) : Calls Tryd.prog 35 #[.string (bs l)] w (ReadIs R w) := by
  have HB := startB w
  have HR := Lib.hid hR
  clear hR
  have hbl : (bs l).size = l.length := bs_size l
  go_enter Tryd.func35, Tryd.ntmps35
  go_upto_region 1 with (refine wlAlloc (by rfl) 76 rfl (rowA 0 0 (.slice none 0 0) 0) zeroRw ?_; intro gR w2 hg hl2 ha hb; replace HB := keepB HB hb; have HI := Lib.hid ha; have HGR : Hid (w.heap.size ≤ gR) := Lib.hid hg; clear ha hb hg hl2)
  simp only [Act.put, List.setIfInBounds_toArray, List.set_cons_zero, List.set_cons_succ]
  go_cut [3, 4] from 10 to 10 (fun s3 s4 wx => w2 = wx ∧ s3 = .int .i64 0 ∧ s4 = .int .i64 4)
  case first =>
    go_wp2
    go_meet
    exact ⟨rfl, rfl, rfl⟩
  case rest =>
    obtain ⟨rfl, rfl, rfl⟩ := hcut
    rename_i K1 hK1
    refine hK1 _ _ (wp_seq_k fun K2 hK2 => ?_)
    clear hK1 K1
    go_cut [3] from 11 to 18 (fun s3 wx => w2 = wx ∧ s3 = .int .i64 (kind1 l : Nat))
    case first =>
      by_cases q1 : 4 < l.length
      · have g1 : decide (4 < l.length) = true := decide_eq_true q1
        have g2 : decide ((4 : Int) < (l.length : Int)) = true := decide_eq_true (by omega)
        by_cases q2 : l.take 4 = segS
        · have h1 := head_yes q2
          unfold segS at h1
          have E1 : Hid (kind1 l = 1) := Lib.hid (if_pos ⟨q1, q2⟩)
          go_wp2
          go_meet
          exact ⟨rfl, congrArg (fun n : Nat => Value.int .i64 n) E1.out.symm⟩
        · have h1 := head_no q2
          unfold segS at h1
          have E1 : Hid (kind1 l = 0) := Lib.hid (if_neg (fun h => q2 h.2))
          go_wp2
          go_meet
          exact ⟨rfl, congrArg (fun n : Nat => Value.int .i64 n) E1.out.symm⟩
      · have g1 : decide (4 < l.length) = false := decide_eq_false q1
        have g2 : decide ((4 : Int) < (l.length : Int)) = false := decide_eq_false (by omega)
        have E1 : Hid (kind1 l = 0) := Lib.hid (if_neg (fun h => q1 h.1))
        go_wp2
        go_meet
        exact ⟨rfl, congrArg (fun n : Nat => Value.int .i64 n) E1.out.symm⟩
    case rest =>
      obtain ⟨rfl, rfl⟩ := hcut
      refine hK2 _ _ (wp_seq_k fun K1 hK1 => ?_)
      clear hK2 K2
      go_cut [3] from 19 to 26 (fun s3 wx => w2 = wx ∧ s3 = .int .i64 (kind2 l : Nat))
      case first =>
        by_cases q1 : 4 < l.length
        · have g1 : decide (4 < l.length) = true := decide_eq_true q1
          have g2 : decide ((4 : Int) < (l.length : Int)) = true := decide_eq_true (by omega)
          by_cases q2 : l.take 4 = andS
          · have h1 := head_yes q2
            unfold andS at h1
            have E1 : Hid (kind2 l = 2) := Lib.hid (if_pos ⟨q1, q2⟩)
            go_wp2
            go_meet
            exact ⟨rfl, congrArg (fun n : Nat => Value.int .i64 n) E1.out.symm⟩
          · have h1 := head_no q2
            unfold andS at h1
            have E1 : Hid (kind2 l = kind1 l) := Lib.hid (if_neg (fun h => q2 h.2))
            go_wp2
            go_meet
            exact ⟨rfl, congrArg (fun n : Nat => Value.int .i64 n) E1.out.symm⟩
        · have g1 : decide (4 < l.length) = false := decide_eq_false q1
          have g2 : decide ((4 : Int) < (l.length : Int)) = false := decide_eq_false (by omega)
          have E1 : Hid (kind2 l = kind1 l) := Lib.hid (if_neg (fun h => q1 h.1))
          go_wp2
          go_meet
          exact ⟨rfl, congrArg (fun n : Nat => Value.int .i64 n) E1.out.symm⟩
      case rest =>
        obtain ⟨rfl, rfl⟩ := hcut
        refine hK1 _ _ (wp_seq_k fun K2 hK2 => ?_)
        clear hK1 K1
        go_cut [3, 4] from 27 to 34 (fun s3 s4 wx => w2 = wx ∧ s3 = .int .i64 (kind3 l : Nat) ∧ s4 = .int .i64 (fromR l : Nat))
        case first =>
          by_cases q1 : 6 < l.length
          · have g1 : decide (6 < l.length) = true := decide_eq_true q1
            have g2 : decide ((6 : Int) < (l.length : Int)) = true := decide_eq_true (by omega)
            by_cases q2 : l.take 6 = startS
            · have h1 := head_yes q2
              unfold startS at h1
              have E1 : Hid (kind3 l = 3) := Lib.hid (if_pos ⟨q1, q2⟩)
              have E2 : Hid (fromR l = 6) := Lib.hid (if_pos ⟨q1, q2⟩)
              go_wp2
              go_meet
              exact ⟨rfl, congrArg (fun n : Nat => Value.int .i64 n) E1.out.symm, congrArg (fun n : Nat => Value.int .i64 n) E2.out.symm⟩
            · have h1 := head_no q2
              unfold startS at h1
              have E1 : Hid (kind3 l = kind2 l) := Lib.hid (if_neg (fun h => q2 h.2))
              have E2 : Hid (fromR l = 4) := Lib.hid (if_neg (fun h => q2 h.2))
              go_wp2
              go_meet
              exact ⟨rfl, congrArg (fun n : Nat => Value.int .i64 n) E1.out.symm, congrArg (fun n : Nat => Value.int .i64 n) E2.out.symm⟩
          · have g1 : decide (6 < l.length) = false := decide_eq_false q1
            have g2 : decide ((6 : Int) < (l.length : Int)) = false := decide_eq_false (by omega)
            have E1 : Hid (kind3 l = kind2 l) := Lib.hid (if_neg (fun h => q1 h.1))
            have E2 : Hid (fromR l = 4) := Lib.hid (if_neg (fun h => q1 h.1))
            go_wp2
            go_meet
            exact ⟨rfl, congrArg (fun n : Nat => Value.int .i64 n) E1.out.symm, congrArg (fun n : Nat => Value.int .i64 n) E2.out.symm⟩
        case rest =>
          obtain ⟨rfl, rfl, rfl⟩ := hcut
          refine hK2 _ _ ?_
          clear hK2 K2
          have hr := HR.out
          have hkc := kind3_cases l
          unfold readV at hr
          generalize kind3 l = K at hr hkc ⊢
          generalize fromR l = F at hr hkc ⊢
          clear HR
          have hKF : (K = 0 ∧ F = 4) ∨ ((K = 1 ∨ K = 2) ∧ F = 4) ∨ (K = 3 ∧ F = 6) := by
            rcases hkc with ⟨a, b⟩ | ⟨a, b, _⟩ | ⟨a, b, _⟩ | ⟨a, b, _⟩
            · exact .inl ⟨a, b⟩
            · exact .inr (.inl ⟨.inl a, b⟩)
            · exact .inr (.inl ⟨.inr a, b⟩)
            · exact .inr (.inr ⟨a, b⟩)
          clear hkc
          rcases hKF with ⟨rfl, rfl⟩ | ⟨hK, rfl⟩ | ⟨rfl, rfl⟩
          · rw [if_pos (.inl rfl)] at hr
            subst hr
            go_wp2_with (refine rowStore (by rfl) 76 _ _ rfl gR rfl (rowA 0 0 (.slice none 0 0) 0) rfl HI.out infoRw rfl (rowA_one _ _ _ _ _ _) ?_; intro w9 ha ho; replace HI := Lib.hid ha; replace HB := keepBo HB HGR.out ho; clear ha ho); exact bodyPost_ret (resA rfl _ _ gR 76 (rowA 0 0 (.slice none 0 0) 0) (0, 0) _ rfl HI.out Tryd.underlying76 rfl infoRw) rfl ⟨⟨none, 0, rfl, own_nil _ _ _, fun _ => ⟨rfl, rfl⟩⟩, HB.out.1⟩
          · have k0 : ¬ K = 0 := by omega
            have k1 : ((K : Int) == 0) = false := beq_eq_false_iff_ne.2 (by omega)
            have k3 : ¬ K = 3 := by omega
            have k4 : ((K : Int) == 3) = false := beq_eq_false_iff_ne.2 (by omega)
            by_cases c2 : l.length < 15
            · rw [if_pos (.inr (.inl c2))] at hr
              subst hr
              have g1 : decide ((l.length : Int) < 15) = true := decide_eq_true (by omega)
              go_upto_if 50 with fail
              go_wp2_with (refine rowStore (by rfl) 76 _ _ rfl gR rfl (rowA 0 0 (.slice none 0 0) 0) rfl HI.out infoRw rfl (rowA_one _ _ _ _ _ _) ?_; intro w9 ha ho; replace HI := Lib.hid ha; replace HB := keepBo HB HGR.out ho; clear ha ho); exact bodyPost_ret (resA rfl _ _ gR 76 (rowA 0 0 (.slice none 0 0) 0) (0, 0) _ rfl HI.out Tryd.underlying76 rfl infoRw) rfl ⟨⟨none, 0, rfl, own_nil _ _ _, fun _ => ⟨rfl, rfl⟩⟩, HB.out.1⟩
            have g1 : decide ((l.length : Int) < 15) = false := decide_eq_false (by omega)
            obtain ⟨x, hx⟩ : ∃ x, l[12]? = some x := ⟨_, List.getElem?_eq_getElem (by omega)⟩
            have HXK := Lib.hid hx
            by_cases c3 : x = 32
            rotate_left
            · rw [if_pos (.inr (.inr (by show l[12]? ≠ some 32; rw [hx]; exact fun q => c3 (Option.some.inj q))))] at hr
              subst hr
              have g3 : ((x.toNat : Int) != 32) = true := bne_iff_ne.2 (fun q => c3 (UInt8.toNat_inj.1 (show x.toNat = 32 by omega)))
              clear hx c3
              go_upto_if 50 with (refine strIndex ?_ _ _ _ rfl Tryd.underlying9 (bs l) rfl .i64 _ rfl 12 x.toNat rfl (by rw [bs_size]; omega) (bAt_getT HXK.out) ?_; exact rfl)
              go_wp2_with (refine rowStore (by rfl) 76 _ _ rfl gR rfl (rowA 0 0 (.slice none 0 0) 0) rfl HI.out infoRw rfl (rowA_one _ _ _ _ _ _) ?_; intro w9 ha ho; replace HI := Lib.hid ha; replace HB := keepBo HB HGR.out ho; clear ha ho); exact bodyPost_ret (resA rfl _ _ gR 76 (rowA 0 0 (.slice none 0 0) 0) (0, 0) _ rfl HI.out Tryd.underlying76 rfl infoRw) rfl ⟨⟨none, 0, rfl, own_nil _ _ _, fun _ => ⟨rfl, rfl⟩⟩, HB.out.1⟩
            subst c3
            rw [if_neg (by rintro (q | q | q); exact k0 q; omega; exact q hx)] at hr
            clear hx
            simp only at hr
            rw [if_neg k3] at hr
            obtain ⟨X, hX⟩ : ∃ X, (l.drop 4).take 8 = X := ⟨_, rfl⟩
            obtain ⟨dt, hdt⟩ : ∃ dt, l.drop (4 + 9) = dt := ⟨_, rfl⟩
            rw [hX, hdt] at hr
            have hXl : X.length = 8 := by rw [← hX, List.length_take, List.length_drop]; omega
            have hdl : dt.length ≤ 1000000 ∧ 2 ≤ dt.length := by rw [← hdt, List.length_drop]; omega
            have x1 : (bs l).extract 4 12 = bs X := by rw [ext_bsT, ← hX]
            have x2 : (bs l).extract 13 l.length = bs dt := by rw [ext_bsT, List.take_of_length_le (by rw [List.length_drop]; exact Nat.le_refl _), ← hdt]
            have hbd : (bs dt).size = dt.length := bs_size dt
            obtain ⟨A, hA⟩ : ∃ A, optI (hexN X 0) = A := ⟨_, rfl⟩
            have HX1 : Hid (∀ wz, Calls Tryd.prog 47 #[.string (bs X)] wz fun e w' => e = .returned (.int .i64 A) ∧ wz = w') := Lib.hid (fun wz => by have := hexes_any X wz (by omega) _ rfl; rwa [hA] at this)
            have HA := Lib.hid hA
            have HXL := Lib.hid hXl
            rw [hA] at hr
            clear hX hdt hA hXl
            by_cases d1 : A < 0
            · rw [if_pos (.inl d1)] at hr
              subst hr
              have g4 : decide (A < 0) = true := decide_eq_true d1
              go_upto_if 50 with (refine strIndex ?_ _ _ _ rfl Tryd.underlying9 (bs l) rfl .i64 _ rfl 12 (32 : UInt8).toNat rfl (by rw [bs_size]; omega) (bAt_getT HXK.out) ?_; exact rfl)
              go_upto_if 114 with (go_at_call 47; refine (HX1.out _).mono ?_; clear HX1; rintro e w3 ⟨rfl, rfl⟩)
              go_wp2_with (refine rowStore (by rfl) 76 _ _ rfl gR rfl (rowA 0 0 (.slice none 0 0) 0) rfl HI.out infoRw rfl (rowA_one _ _ _ _ _ _) ?_; intro w9 ha ho; replace HI := Lib.hid ha; replace HB := keepBo HB HGR.out ho; clear ha ho); exact bodyPost_ret (resA rfl _ _ gR 76 (rowA 0 0 (.slice none 0 0) 0) (0, 0) _ rfl HI.out Tryd.underlying76 rfl infoRw) rfl ⟨⟨none, 0, rfl, own_nil _ _ _, fun _ => ⟨rfl, rfl⟩⟩, HB.out.1⟩
            have g4 : decide (A < 0) = false := decide_eq_false d1
            by_cases d2 : dt.length < 5
            · rw [if_pos (.inr (.inl d2))] at hr
              subst hr
              have g5 : decide ((dt.length : Int) - 3 < 2) = true := decide_eq_true (by omega)
              go_upto_if 50 with (refine strIndex ?_ _ _ _ rfl Tryd.underlying9 (bs l) rfl .i64 _ rfl 12 (32 : UInt8).toNat rfl (by rw [bs_size]; omega) (bAt_getT HXK.out) ?_; exact rfl)
              go_upto_if 114 with (go_at_call 47; refine (HX1.out _).mono ?_; clear HX1; rintro e w3 ⟨rfl, rfl⟩)
              go_wp2_with (refine rowStore (by rfl) 76 _ _ rfl gR rfl (rowA 0 0 (.slice none 0 0) 0) rfl HI.out infoRw rfl (rowA_one _ _ _ _ _ _) ?_; intro w9 ha ho; replace HI := Lib.hid ha; replace HB := keepBo HB HGR.out ho; clear ha ho); exact bodyPost_ret (resA rfl _ _ gR 76 (rowA 0 0 (.slice none 0 0) 0) (0, 0) _ rfl HI.out Tryd.underlying76 rfl infoRw) rfl ⟨⟨none, 0, rfl, own_nil _ _ _, fun _ => ⟨rfl, rfl⟩⟩, HB.out.1⟩
            obtain ⟨n, hn⟩ : ∃ n, dt.length = n + 3 := ⟨dt.length - 3, by omega⟩
            rw [hn, show n + 3 - 3 = n by omega, show n + 3 - 2 = n + 1 by omega] at hr
            rw [hn] at hbd hdl
            have hn2 : 2 ≤ n := by omega
            have HN := Lib.hid hn
            have g5 : decide ((n : Int) < 2) = false := decide_eq_false (by omega)
            clear d2
            by_cases d3 : 35 < n + 3
            · rw [if_pos (.inr (.inr (.inl d3)))] at hr
              subst hr
              have g6 : decide (32 < (n : Int)) = true := decide_eq_true (by omega)
              clear hn
              go_upto_if 50 with (refine strIndex ?_ _ _ _ rfl Tryd.underlying9 (bs l) rfl .i64 _ rfl 12 (32 : UInt8).toNat rfl (by rw [bs_size]; omega) (bAt_getT HXK.out) ?_; exact rfl)
              go_upto_if 114 with (go_at_call 47; refine (HX1.out _).mono ?_; clear HX1; rintro e w3 ⟨rfl, rfl⟩)
              go_wp2_with (refine rowStore (by rfl) 76 _ _ rfl gR rfl (rowA 0 0 (.slice none 0 0) 0) rfl HI.out infoRw rfl (rowA_one _ _ _ _ _ _) ?_; intro w9 ha ho; replace HI := Lib.hid ha; replace HB := keepBo HB HGR.out ho; clear ha ho); exact bodyPost_ret (resA rfl _ _ gR 76 (rowA 0 0 (.slice none 0 0) 0) (0, 0) _ rfl HI.out Tryd.underlying76 rfl infoRw) rfl ⟨⟨none, 0, rfl, own_nil _ _ _, fun _ => ⟨rfl, rfl⟩⟩, HB.out.1⟩
            have hn32 : n ≤ 32 := by omega
            have g6 : decide (32 < (n : Int)) = false := decide_eq_false (by omega)
            clear d3
            by_cases d4 : n % 2 = 0
            rotate_left
            · rw [if_pos (.inr (.inr (.inr (.inl d4))))] at hr
              subst hr
              have g7 : ((n : Int) % 2 != 0) = true := bne_iff_ne.2 (by omega)
              clear hn
              go_upto_if 50 with (refine strIndex ?_ _ _ _ rfl Tryd.underlying9 (bs l) rfl .i64 _ rfl 12 (32 : UInt8).toNat rfl (by rw [bs_size]; omega) (bAt_getT HXK.out) ?_; exact rfl)
              go_upto_if 114 with (go_at_call 47; refine (HX1.out _).mono ?_; clear HX1; rintro e w3 ⟨rfl, rfl⟩)
              go_wp2_with (refine rowStore (by rfl) 76 _ _ rfl gR rfl (rowA 0 0 (.slice none 0 0) 0) rfl HI.out infoRw rfl (rowA_one _ _ _ _ _ _) ?_; intro w9 ha ho; replace HI := Lib.hid ha; replace HB := keepBo HB HGR.out ho; clear ha ho); exact bodyPost_ret (resA rfl _ _ gR 76 (rowA 0 0 (.slice none 0 0) 0) (0, 0) _ rfl HI.out Tryd.underlying76 rfl infoRw) rfl ⟨⟨none, 0, rfl, own_nil _ _ _, fun _ => ⟨rfl, rfl⟩⟩, HB.out.1⟩
            have g7 : (n : Int) % 2 = 0 := by omega
            obtain ⟨y, hy⟩ : ∃ y, dt[n]? = some y := ⟨_, List.getElem?_eq_getElem (by omega)⟩
            have HYK := Lib.hid hy
            rw [hy] at hr
            clear hy
            by_cases d5 : y = 32
            rotate_left
            · rw [if_pos (.inr (.inr (.inr (.inr (.inl (fun q => d5 (Option.some.inj q)))))))] at hr
              subst hr
              have g8 : ((y.toNat : Int) != 32) = true := bne_iff_ne.2 (fun q => d5 (UInt8.toNat_inj.1 (show y.toNat = 32 by omega)))
              clear d5 hn
              go_upto_if 50 with (refine strIndex ?_ _ _ _ rfl Tryd.underlying9 (bs l) rfl .i64 _ rfl 12 (32 : UInt8).toNat rfl (by rw [bs_size]; omega) (bAt_getT HXK.out) ?_; exact rfl)
              go_upto_if 114 with (first | (go_at_call 47; refine (HX1.out _).mono ?_; clear HX1; rintro e w3 ⟨rfl, rfl⟩) | (refine strIndex ?_ _ _ _ rfl Tryd.underlying9 (bs dt) rfl .i64 _ rfl n y.toNat rfl (by rw [hbd]; omega) (bAt_getT HYK.out) ?_; exact rfl))
              go_wp2_with (refine rowStore (by rfl) 76 _ _ rfl gR rfl (rowA 0 0 (.slice none 0 0) 0) rfl HI.out infoRw rfl (rowA_one _ _ _ _ _ _) ?_; intro w9 ha ho; replace HI := Lib.hid ha; replace HB := keepBo HB HGR.out ho; clear ha ho); exact bodyPost_ret (resA rfl _ _ gR 76 (rowA 0 0 (.slice none 0 0) 0) (0, 0) _ rfl HI.out Tryd.underlying76 rfl infoRw) rfl ⟨⟨none, 0, rfl, own_nil _ _ _, fun _ => ⟨rfl, rfl⟩⟩, HB.out.1⟩
            obtain ⟨D, hD⟩ : ∃ D, dt.drop (n + 1) = D := ⟨_, rfl⟩
            have hDl : D.length = 2 := by rw [← hD, List.length_drop]; omega
            have x3 : (bs dt).extract (n + 1) (n + 3) = bs D := by rw [ext_bsT, hD, List.take_of_length_le (by omega)]
            rw [hD] at hr
            obtain ⟨Z, hZ⟩ : ∃ Z, optI (hexN D 0) = Z := ⟨_, rfl⟩
            have HX2 : Hid (∀ wz, Calls Tryd.prog 47 #[.string (bs D)] wz fun e w' => e = .returned (.int .i64 Z) ∧ wz = w') := Lib.hid (fun wz => by have := hexes_any D wz (by omega) _ rfl; rwa [hZ] at this)
            have HZ := Lib.hid hZ
            have HDL := Lib.hid hDl
            rw [hZ] at hr
            subst d5
            clear hD hDl hZ
            by_cases d6 : Z < 0
            · rw [if_pos (.inr (.inr (.inr (.inr (.inr d6)))))] at hr
              subst hr
              have g9 : decide (Z < 0) = true := decide_eq_true d6
              clear hn
              go_upto_if 50 with (refine strIndex ?_ _ _ _ rfl Tryd.underlying9 (bs l) rfl .i64 _ rfl 12 (32 : UInt8).toNat rfl (by rw [bs_size]; omega) (bAt_getT HXK.out) ?_; exact rfl)
              go_upto_if 114 with (first | (go_at_call 47; refine (HX1.out _).mono ?_; clear HX1; rintro e w3 ⟨rfl, rfl⟩) | (refine strIndex ?_ _ _ _ rfl Tryd.underlying9 (bs dt) rfl .i64 _ rfl n (32 : UInt8).toNat rfl (by rw [hbd]; omega) (bAt_getT HYK.out) ?_; exact rfl) | (go_at_call 47; refine (HX2.out _).mono ?_; rintro e w3 ⟨rfl, rfl⟩))
              go_wp2_with (refine rowStore (by rfl) 76 _ _ rfl gR rfl (rowA 0 0 (.slice none 0 0) 0) rfl HI.out infoRw rfl (rowA_one _ _ _ _ _ _) ?_; intro w9 ha ho; replace HI := Lib.hid ha; replace HB := keepBo HB HGR.out ho; clear ha ho); exact bodyPost_ret (resA rfl _ _ gR 76 (rowA 0 0 (.slice none 0 0) 0) (0, 0) _ rfl HI.out Tryd.underlying76 rfl infoRw) rfl ⟨⟨none, 0, rfl, own_nil _ _ _, fun _ => ⟨rfl, rfl⟩⟩, HB.out.1⟩
            rw [if_neg (by rintro (q | q | q | q | q | q); exact d1 q; omega; omega; exact q d4; exact q rfl; exact d6 q)] at hr
            obtain ⟨u, hu, -, e1⟩ := hexN8 HXL.out (by rw [HA.out]; exact d1)
            obtain ⟨s, hs, -, e2⟩ := hexN2 HDL.out (by rw [HZ.out]; exact d6)
            obtain rfl : A = u := HA.out.symm.trans e1
            obtain rfl : Z = s := HZ.out.symm.trans e2
            rw [Int.toNat_natCast, Int.toNat_natCast] at hr
            obtain ⟨H, hH⟩ : ∃ H, hexP (dt.take n) = H := ⟨_, rfl⟩
            rw [hH] at hr
            have HR := Lib.hid hr
            have HH : Hid ((hexP ((dt.take n).drop 0)).map (([] : List UInt8) ++ ·) = H) := Lib.hid (by rw [List.drop_zero, hH]; cases H <;> rfl)
            have HRL : Hid (gR < w2.heap.size) := Lib.hid (Array.getElem?_eq_some_iff.1 HI.out).1
            have HGW : Hid (w.heap.size ≤ w2.heap.size) := Lib.hid HB.out.2
            have g9 : decide ((s : Int) < 0) = false := decide_eq_false (by omega)
            clear e1 e2 d1 d6 d4 hn hr hH
            go_upto_if 50 with (refine strIndex ?_ _ _ _ rfl Tryd.underlying9 (bs l) rfl .i64 _ rfl 12 (32 : UInt8).toNat rfl (by rw [bs_size]; omega) (bAt_getT HXK.out) ?_; exact rfl)
            go_upto_if 114 with (first | (go_at_call 47; refine (HX1.out _).mono ?_; clear HX1; rintro e w3 ⟨rfl, rfl⟩) | (refine strIndex ?_ _ _ _ rfl Tryd.underlying9 (bs dt) rfl .i64 _ rfl n (32 : UInt8).toNat rfl (by rw [hbd]; omega) (bAt_getT HYK.out) ?_; exact rfl) | (go_at_call 47; refine (HX2.out _).mono ?_; rintro e w3 ⟨rfl, rfl⟩))
            go_upto_region 21 with (first | (go_at_call 47; refine (HX2.out _).mono ?_; rintro e w3 ⟨rfl, rfl⟩) | (refine wlAlloc (by rfl) 76 rfl (rowA 0 0 (.slice none 0 0) 0) zeroRw ?_; intro gO w5 hgO hgO2 ha hb; replace HB := keepB HB hb; replace HI := keepA HI hb; have HG := Lib.hid ha; have HGO : Hid (w.heap.size ≤ gO) := Lib.hid (Nat.le_trans HGW.out hgO); have HGN : Hid (gR ≠ gO) := Lib.hid (Nat.ne_of_lt (Nat.lt_of_lt_of_le HRL.out hgO)); clear ha hb hgO hgO2) | (refine rowStore (by rfl) 76 _ _ rfl gO rfl (rowA K u (.slice none 0 0) s) rfl HG.out infoRw rfl (rowA_one _ _ _ _ _ _) ?_; intro w9 ha ho; replace HG := Lib.hid ha; replace HI := keepAo HI HGN.out ho; replace HB := keepBo HB HGO.out ho; clear ha ho))
            obtain ⟨B2, hB2⟩ : ∃ B2, w9.heap.size = B2 := ⟨_, rfl⟩
            have HWB : Hid (w.heap.size ≤ B2) := Lib.hid (by rw [← hB2]; exact HB.out.2)
            have HGB : Hid (gO < B2) := Lib.hid (by rw [← hB2]; exact (Array.getElem?_eq_some_iff.1 HG.out).1)
            have HRB : Hid (gR < B2) := Lib.hid (by rw [← hB2]; exact (Array.getElem?_eq_some_iff.1 HI.out).1)
            have HZB : Hid (B2 ≤ w9.heap.size) := Lib.hid (by rw [hB2]; exact Nat.le_refl _)
            have HO : Hid (OwnB w9 B2 (.slice none 0 0) []) := Lib.hid (own_nil _ _ _)
            clear hB2 HX2 x1 x2 x3 HRL HGW HDL HXL HYK HXK
            go_wp2_with fail
            go_loopw [9] (fun i wr => ∃ (j : Nat) (acc : List UInt8) (v : Option Addr) (cc : Nat), j ≤ n ∧ j % 2 = 0 ∧ acc.length ≤ j ∧ i = .int .i64 j ∧ Hid ((hexP ((dt.take n).drop j)).map (acc ++ ·) = H) ∧ Hid (OwnB wr B2 (.slice v acc.length cc) acc) ∧ Hid (wr.heap[gO]? = some (.cells (rowA K u (.slice v acc.length cc) s) 76 (0, 0))) ∧ Hid (wr.heap[gR]? = some (.cells (rowA 0 0 (.slice none 0 0) 0) 76 (0, 0))) ∧ Hid (Below w.heap.size w wr ∧ w.heap.size ≤ wr.heap.size) ∧ Hid (B2 ≤ wr.heap.size)) (fun i _ => n - (intOf i).toNat)
            case atStart => exact ⟨0, [], none, 0, Nat.zero_le _, rfl, Nat.le_refl _, by first | trivial | rfl, HH, HO, HG, HI, HB, HZB⟩
            case round =>
              clear HH HO HG HI HB HZB
              obtain ⟨j, acc, v, cc, hj, hj2, hal, rfl, HH, HO, HG, HI, HB, HZB⟩ := hrel
              by_cases hlt : j < n
              · obtain ⟨a, ha⟩ : ∃ a, dt[j]? = some a := ⟨_, List.getElem?_eq_getElem (by have := HN.out; omega)⟩
                obtain ⟨b, hb⟩ : ∃ b, dt[j + 1]? = some b := ⟨_, List.getElem?_eq_getElem (by have := HN.out; omega)⟩
                have hd : (dt.take n).drop j = a :: b :: (dt.take n).drop (j + 2) := by
                  rw [drop_cons (x := a) (by rw [List.getElem?_take_of_lt (by omega)]; exact ha), drop_cons (x := b) (by rw [List.getElem?_take_of_lt (by omega)]; exact hb)]
                have x4 : (bs dt).extract j (j + 2) = bs [a, b] := by
                  rw [ext_bsT, drop_cons ha, drop_cons hb, show j + 2 - j = 2 by omega]; rfl
                have hh := HH.out
                rw [hd, hexP] at hh
                have hx3 := hexN_pair a b
                have o2 : wr.cell? ⟨gO, 2, none⟩ = some (.slice v acc.length cc) := cellA HG 2
                by_cases q : hv (a.toNat : Int) < 0 ∨ hv (b.toNat : Int) < 0
                · rw [if_pos q] at hh hx3
                  have hR0 : rowZ = R := by have := HR.out; rw [← hh] at this; exact this
                  subst hR0
                  have HX3 : Hid (∀ wz, Calls Tryd.prog 47 #[.string (bs [a, b])] wz fun e w' => e = .returned (.int .i64 (-1)) ∧ wz = w') := Lib.hid (fun wz => by have := hexes_any [a, b] wz (by show 2 ≤ 8; decide) _ rfl; rwa [hx3] at this)
                  obtain ⟨pq, hpq⟩ : ∃ pq, [a, b] = pq := ⟨_, rfl⟩
                  rw [hpq] at x4 HX3
                  clear hh hx3 ha hb hd q hpq o2
                  go_wp2_with (first | (go_at_call 47; refine (HX3.out _).mono ?_; clear HX3; rintro e w3 ⟨rfl, rfl⟩) | (refine rowStore (by rfl) 76 _ _ rfl gR rfl (rowA 0 0 (.slice none 0 0) 0) rfl HI.out infoRw rfl (rowA_one _ _ _ _ _ _) ?_; intro w9 ha ho; replace HI := Lib.hid ha; replace HB := keepBo HB HGR.out ho; clear ha ho))
                  exact bodyPost_ret (resA rfl _ _ gR 76 (rowA 0 0 (.slice none 0 0) 0) (0, 0) _ rfl HI.out Tryd.underlying76 rfl infoRw) rfl ⟨⟨none, 0, rfl, own_nil _ _ _, fun _ => ⟨rfl, rfl⟩⟩, HB.out.1⟩
                · rw [if_neg q] at hh hx3
                  obtain ⟨c, hc⟩ : ∃ c, pairV a b = c := ⟨_, rfl⟩
                  rw [hc] at hh hx3
                  have hcl := c.toNat_lt
                  have g10 : decide ((c.toNat : Int) < 0) = false := decide_eq_false (by omega)
                  have HX3 : Hid (∀ wz, Calls Tryd.prog 47 #[.string (bs [a, b])] wz fun e w' => e = .returned (.int .i64 (c.toNat : Int)) ∧ wz = w') := Lib.hid (fun wz => by have := hexes_any [a, b] wz (by show 2 ≤ 8; decide) _ rfl; rwa [hx3] at this)
                  have HH2 : Hid ((hexP ((dt.take n).drop (j + 2))).map ((acc ++ [c]) ++ ·) = H) := Lib.hid (by
                    rw [← hh]
                    cases hexP ((dt.take n).drop (j + 2)) with
                    | none => rfl
                    | some r => simp)
                  obtain ⟨pq, hpq⟩ : ∃ pq, [a, b] = pq := ⟨_, rfl⟩
                  rw [hpq] at x4 HX3
                  have hacc : acc.length ≤ 1000000 := by omega
                  obtain ⟨a3, ha3⟩ : ∃ a3, acc ++ [c] = a3 := ⟨_, rfl⟩
                  have ha3l : a3.length ≤ j + 2 := by rw [← ha3, List.length_append]; show _ + 1 ≤ _; omega
                  rw [ha3] at HH2
                  have HA3 := Lib.hid ha3
                  clear ha3
                  clear hh hx3 ha hb hd q hpq hc
                  go_wp2_with (first | (go_at_call 47; refine (HX3.out _).mono ?_; clear HX3; rintro e w3 ⟨rfl, rfl⟩) | (refine appOne rfl _ _ 26 5 (.int .u8 0) 1 rfl Tryd.underlying26 infoB rfl B2 _ acc.length _ rfl HO.out _ rfl _ rfl (by unfold maxLen; omega) (by omega) HZB.out ?_; intro v2 w7 ho2 hb2; replace HO : Hid (OwnB w7 B2 v2 a3) := Lib.hid (by have := ownB_add (c := c) ho2 rfl rfl; rwa [HA3.out] at this); replace HG := keepAg HG HGB.out hb2; replace HI := keepAg HI HRB.out hb2; replace HB := keepBg HB HWB.out hb2; replace HZB := Lib.hid (Nat.le_trans HZB.out hb2.size); clear ho2 hb2; obtain ⟨A2, c2, rfl, -, -⟩ := HO.out.rd) | (refine cellStore (by rfl) 26 _ _ rfl gO 2 ?_ (.slice A2 a3.length c2) rfl rfl rfl HG.out (by show 2 < 4; decide) infoSB ?_; exact rfl; intro w8 hg8 ho8; replace HG : Hid (w8.heap[gO]? = some (.cells (rowA K u (.slice A2 a3.length c2) s) 76 (0, 0))) := Lib.hid hg8; replace HI := keepAo HI HGN.out ho8; replace HO : Hid (OwnB w8 B2 (.slice A2 a3.length c2) a3) := Lib.hid (own_only HO.out HGB.out ho8); replace HB := keepBo HB HGO.out ho8; replace HZB : Hid (B2 ≤ w8.heap.size) := Lib.hid (by rw [ho8.size]; exact HZB.out); clear hg8 ho8))
                  go_roundw
                  case rel => exact ⟨j + 2, a3, A2, c2, by omega, by omega, ha3l, by first | trivial | go_num, HH2, HO, HG, HI, HB, HZB⟩
                  case measure => simp [intOf]; omega
              · obtain rfl : j = n := by omega
                have hh := HH.out
                rw [List.drop_eq_nil_of_le (by rw [List.length_take]; omega), hexP] at hh
                have hh2 : H = some acc := by rw [← hh]; simp
                subst hh2
                have hR0 : (⟨K, u, acc, s⟩ : RowV) = R := HR.out
                subst hR0
                clear hh
                go_wp2_with (first | (refine rowLoad (by rfl) 76 _ rfl gO rfl (cs := rowA K u (.slice v acc.length cc) s) HG.out Tryd.underlying76 rfl infoRw ?_) | (refine rowStore (by rfl) 76 _ _ rfl gR rfl (rowA K u (.slice v acc.length cc) s) rfl HI.out infoRw rfl (rowA_one _ _ _ _ _ _) ?_; intro w9 ha ho; replace HI := Lib.hid ha; replace HO : Hid (OwnB w9 w.heap.size (.slice v acc.length cc) acc) := Lib.hid (own_weak (own_only HO.out HRB.out ho) HWB.out); replace HB := keepBo HB HGR.out ho; clear ha ho))
                exact bodyPost_ret (resA rfl _ _ gR 76 (rowA K u (.slice v acc.length cc) s) (0, 0) _ rfl HI.out Tryd.underlying76 rfl infoRw) rfl ⟨⟨v, cc, rfl, HO.out, fun q => absurd q k3⟩, HB.out.1⟩
          · by_cases c2 : l.length < 17
            · rw [if_pos (.inr (.inl c2))] at hr
              subst hr
              have g1 : decide ((l.length : Int) < 17) = true := decide_eq_true (by omega)
              go_upto_if 50 with fail
              go_wp2_with (refine rowStore (by rfl) 76 _ _ rfl gR rfl (rowA 0 0 (.slice none 0 0) 0) rfl HI.out infoRw rfl (rowA_one _ _ _ _ _ _) ?_; intro w9 ha ho; replace HI := Lib.hid ha; replace HB := keepBo HB HGR.out ho; clear ha ho); exact bodyPost_ret (resA rfl _ _ gR 76 (rowA 0 0 (.slice none 0 0) 0) (0, 0) _ rfl HI.out Tryd.underlying76 rfl infoRw) rfl ⟨⟨none, 0, rfl, own_nil _ _ _, fun _ => ⟨rfl, rfl⟩⟩, HB.out.1⟩
            have g1 : decide ((l.length : Int) < 17) = false := decide_eq_false (by omega)
            obtain ⟨x, hx⟩ : ∃ x, l[14]? = some x := ⟨_, List.getElem?_eq_getElem (by omega)⟩
            have HXK := Lib.hid hx
            by_cases c3 : x = 32
            rotate_left
            · rw [if_pos (.inr (.inr (by show l[14]? ≠ some 32; rw [hx]; exact fun q => c3 (Option.some.inj q))))] at hr
              subst hr
              have g3 : ((x.toNat : Int) != 32) = true := bne_iff_ne.2 (fun q => c3 (UInt8.toNat_inj.1 (show x.toNat = 32 by omega)))
              clear hx c3
              go_upto_if 50 with (refine strIndex ?_ _ _ _ rfl Tryd.underlying9 (bs l) rfl .i64 _ rfl 14 x.toNat rfl (by rw [bs_size]; omega) (bAt_getT HXK.out) ?_; exact rfl)
              go_wp2_with (refine rowStore (by rfl) 76 _ _ rfl gR rfl (rowA 0 0 (.slice none 0 0) 0) rfl HI.out infoRw rfl (rowA_one _ _ _ _ _ _) ?_; intro w9 ha ho; replace HI := Lib.hid ha; replace HB := keepBo HB HGR.out ho; clear ha ho); exact bodyPost_ret (resA rfl _ _ gR 76 (rowA 0 0 (.slice none 0 0) 0) (0, 0) _ rfl HI.out Tryd.underlying76 rfl infoRw) rfl ⟨⟨none, 0, rfl, own_nil _ _ _, fun _ => ⟨rfl, rfl⟩⟩, HB.out.1⟩
            subst c3
            rw [if_neg (by rintro (q | q | q); cases q; omega; exact q hx)] at hr
            clear hx
            simp only at hr
            rw [if_pos trivial] at hr
            obtain ⟨X, hX⟩ : ∃ X, (l.drop 6).take 8 = X := ⟨_, rfl⟩
            obtain ⟨dt, hdt⟩ : ∃ dt, l.drop (6 + 9) = dt := ⟨_, rfl⟩
            rw [hX, hdt] at hr
            have hXl : X.length = 8 := by rw [← hX, List.length_take, List.length_drop]; omega
            have hdl : dt.length ≤ 1000000 := by rw [← hdt, List.length_drop]; omega
            have x1 : (bs l).extract 6 14 = bs X := by rw [ext_bsT, ← hX]
            have x2 : (bs l).extract 15 l.length = bs dt := by rw [ext_bsT, List.take_of_length_le (by rw [List.length_drop]; exact Nat.le_refl _), ← hdt]
            have hbd : (bs dt).size = dt.length := bs_size dt
            obtain ⟨A, hA⟩ : ∃ A, optI (hexN X 0) = A := ⟨_, rfl⟩
            have HX1 : Hid (∀ w2, Calls Tryd.prog 47 #[.string (bs X)] w2 fun e w' => e = .returned (.int .i64 A) ∧ w2 = w') := Lib.hid (fun w2 => by have := hexes_any X w2 (by omega) _ rfl; rwa [hA] at this)
            have HA := Lib.hid hA
            have HXL := Lib.hid hXl
            rw [hA] at hr
            clear hX hdt hA hXl
            by_cases d1 : dt.length = 2
            rotate_left
            · rw [if_pos (.inl d1)] at hr
              subst hr
              have g4 : ((dt.length : Int) != 2) = true := bne_iff_ne.2 (by omega)
              clear d1
              go_upto_if 50 with (refine strIndex ?_ _ _ _ rfl Tryd.underlying9 (bs l) rfl .i64 _ rfl 14 (32 : UInt8).toNat rfl (by rw [bs_size]; omega) (bAt_getT HXK.out) ?_; exact rfl)
              go_upto_if 78 with (go_at_call 47; refine (HX1.out _).mono ?_; clear HX1; rintro e w3 ⟨rfl, rfl⟩)
              go_wp2_with (refine rowStore (by rfl) 76 _ _ rfl gR rfl (rowA 0 0 (.slice none 0 0) 0) rfl HI.out infoRw rfl (rowA_one _ _ _ _ _ _) ?_; intro w9 ha ho; replace HI := Lib.hid ha; replace HB := keepBo HB HGR.out ho; clear ha ho); exact bodyPost_ret (resA rfl _ _ gR 76 (rowA 0 0 (.slice none 0 0) 0) (0, 0) _ rfl HI.out Tryd.underlying76 rfl infoRw) rfl ⟨⟨none, 0, rfl, own_nil _ _ _, fun _ => ⟨rfl, rfl⟩⟩, HB.out.1⟩
            have HD1 := Lib.hid d1
            replace hbd : (bs dt).size = 2 := hbd.trans d1
            obtain ⟨Z, hZ⟩ : ∃ Z, optI (hexN dt 0) = Z := ⟨_, rfl⟩
            have HX2 : Hid (∀ w2, Calls Tryd.prog 47 #[.string (bs dt)] w2 fun e w' => e = .returned (.int .i64 Z) ∧ w2 = w') := Lib.hid (fun w2 => by have := hexes_any dt w2 (by omega) _ rfl; rwa [hZ] at this)
            have HZ := Lib.hid hZ
            rw [hZ] at hr
            clear hZ hdl
            by_cases d2 : A < 0
            · rw [if_pos (.inr (.inl d2))] at hr
              subst hr
              have g4 : decide (A < 0) = true := decide_eq_true d2
              clear d1
              go_upto_if 50 with (refine strIndex ?_ _ _ _ rfl Tryd.underlying9 (bs l) rfl .i64 _ rfl 14 (32 : UInt8).toNat rfl (by rw [bs_size]; omega) (bAt_getT HXK.out) ?_; exact rfl)
              go_upto_if 78 with (go_at_call 47; refine (HX1.out _).mono ?_; clear HX1; rintro e w3 ⟨rfl, rfl⟩)
              go_wp2_with (refine rowStore (by rfl) 76 _ _ rfl gR rfl (rowA 0 0 (.slice none 0 0) 0) rfl HI.out infoRw rfl (rowA_one _ _ _ _ _ _) ?_; intro w9 ha ho; replace HI := Lib.hid ha; replace HB := keepBo HB HGR.out ho; clear ha ho); exact bodyPost_ret (resA rfl _ _ gR 76 (rowA 0 0 (.slice none 0 0) 0) (0, 0) _ rfl HI.out Tryd.underlying76 rfl infoRw) rfl ⟨⟨none, 0, rfl, own_nil _ _ _, fun _ => ⟨rfl, rfl⟩⟩, HB.out.1⟩
            by_cases d3 : Z < 0
            · rw [if_pos (.inr (.inr d3))] at hr
              subst hr
              have g4 : decide (A < 0) = false := decide_eq_false d2
              have g5 : decide (Z < 0) = true := decide_eq_true d3
              clear d1
              go_upto_if 50 with (refine strIndex ?_ _ _ _ rfl Tryd.underlying9 (bs l) rfl .i64 _ rfl 14 (32 : UInt8).toNat rfl (by rw [bs_size]; omega) (bAt_getT HXK.out) ?_; exact rfl)
              go_upto_if 78 with (first | (go_at_call 47; refine (HX1.out _).mono ?_; clear HX1; rintro e w3 ⟨rfl, rfl⟩) | (go_at_call 47; refine (HX2.out _).mono ?_; rintro e w3 ⟨rfl, rfl⟩))
              go_wp2_with (refine rowStore (by rfl) 76 _ _ rfl gR rfl (rowA 0 0 (.slice none 0 0) 0) rfl HI.out infoRw rfl (rowA_one _ _ _ _ _ _) ?_; intro w9 ha ho; replace HI := Lib.hid ha; replace HB := keepBo HB HGR.out ho; clear ha ho); exact bodyPost_ret (resA rfl _ _ gR 76 (rowA 0 0 (.slice none 0 0) 0) (0, 0) _ rfl HI.out Tryd.underlying76 rfl infoRw) rfl ⟨⟨none, 0, rfl, own_nil _ _ _, fun _ => ⟨rfl, rfl⟩⟩, HB.out.1⟩
            rw [if_neg (by rintro (q | q | q); exact q d1; exact d2 q; exact d3 q)] at hr
            obtain ⟨u, hu, -, e1⟩ := hexN8 HXL.out (by rw [HA.out]; exact d2)
            obtain ⟨s, hs, -, e2⟩ := hexN2 d1 (by rw [HZ.out]; exact d3)
            obtain rfl : A = u := HA.out.symm.trans e1
            obtain rfl : Z = s := HZ.out.symm.trans e2
            rw [Int.toNat_natCast, Int.toNat_natCast] at hr
            subst hr
            have g4 : decide ((u : Int) < 0) = false := decide_eq_false (by omega)
            have g5 : decide ((s : Int) < 0) = false := decide_eq_false (by omega)
            clear d1 e1 e2 d2 d3
            go_upto_if 50 with (refine strIndex ?_ _ _ _ rfl Tryd.underlying9 (bs l) rfl .i64 _ rfl 14 (32 : UInt8).toNat rfl (by rw [bs_size]; omega) (bAt_getT HXK.out) ?_; exact rfl)
            go_upto_if 78 with (first | (go_at_call 47; refine (HX1.out _).mono ?_; clear HX1; rintro e w3 ⟨rfl, rfl⟩) | (go_at_call 47; refine (HX2.out _).mono ?_; rintro e w3 ⟨rfl, rfl⟩))
            go_wp2_with (first | (go_at_call 47; refine (HX2.out _).mono ?_; rintro e w3 ⟨rfl, rfl⟩) | (refine rowStore (by rfl) 76 _ _ rfl gR rfl (rowA 3 u (.slice none 0 0) s) rfl HI.out infoRw rfl (rowA_one _ _ _ _ _ _) ?_; intro w9 ha ho; replace HI := Lib.hid ha; replace HB := keepBo HB HGR.out ho; clear ha ho))
            exact bodyPost_ret (resA rfl _ _ gR 76 (rowA 3 u (.slice none 0 0) s) (0, 0) _ rfl HI.out Tryd.underlying76 rfl infoRw) rfl ⟨⟨none, 0, rfl, own_nil _ _ _, fun _ => ⟨rfl, rfl⟩⟩, HB.out.1⟩
end Go.Proofs.YtnigkecpiolgeaaDoor.My
