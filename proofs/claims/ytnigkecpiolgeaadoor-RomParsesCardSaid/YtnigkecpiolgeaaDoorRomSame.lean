/- Walk: are two slices of bytes one; are two images one. -/
import Derived.Test.YtnigkecpiolgeaaDoorRomGe
set_option linter.unusedSimpArgs false
set_option linter.unusedVariables false
namespace Go.Proofs.YtnigkecpiolgeaaDoor.My
open Go.RowKit
theorem bytesS_any (A1 A2 : Option Addr) (c1 c2 : Nat) (l1 l2 : List UInt8) (w : World) (h1 : RdA .u8 w A1 l1.length (ints l1)) (h2 : RdA .u8 w A2 l2.length (ints l2)) (hm1 : l1.length ≤ 9223372036854775807) (hm2 : l2.length ≤ 9223372036854775807) : Calls Tryd.prog 22 #[.slice A1 l1.length c1, .slice A2 l2.length c2] w fun e w' => e = .returned (.bool (decide (l1 = l2))) ∧ Below w.heap.size w w' := by
  have HX := Lib.hid h1
  have HY := Lib.hid h2
  have HB := startB w
  clear h1 h2
  obtain ⟨R, hR⟩ : ∃ R, decide (l1 = l2) = R := ⟨_, rfl⟩
  rw [hR]
  by_cases q : l1.length = l2.length
  · have HR : Hid (decide (l1.drop 0 = l2.drop 0) = R) := Lib.hid hR
    clear hR
    obtain ⟨n2, hn2⟩ : ∃ n, l2.length = n := ⟨_, rfl⟩
    have HN := Lib.hid hn2
    rw [hn2] at HY q hm2 ⊢
    clear hn2
    go_enter Tryd.func22, Tryd.ntmps22
    go_wp2
    go_loopw [5] (fun i wr => ∃ (k : Nat), k ≤ l1.length ∧ i = .int .i64 k ∧ Hid (decide (l1.drop k = l2.drop k) = R) ∧ Hid (RdA .u8 wr A1 l1.length (ints l1)) ∧ Hid (RdA .u8 wr A2 n2 (ints l2)) ∧ Hid (Below w.heap.size w wr ∧ w.heap.size ≤ wr.heap.size)) (fun i _ => l1.length - (intOf i).toNat)
    case atStart => exact ⟨0, Nat.zero_le _, rfl, HR, HX, HY, HB⟩
    case round =>
      clear HX HY HB HR
      obtain ⟨k, hk, rfl, HR, HX, HY, HB⟩ := hrel
      by_cases hlt : k < l1.length
      · have hlt2 : k < n2 := by omega
        obtain ⟨b, off, rfl, hc⟩ := HX.out.2 (by omega)
        obtain ⟨b', off', rfl, hc'⟩ := HY.out.2 (by omega)
        obtain ⟨x, hx⟩ : ∃ x, l1[k]? = some x := ⟨_, List.getElem?_eq_getElem hlt⟩
        obtain ⟨y, hy⟩ : ∃ y, l2[k]? = some y := ⟨_, List.getElem?_eq_getElem (by rw [HN.out]; exact hlt2)⟩
        have e1 := hc k hlt
        have e2 := hc' k hlt2
        rw [el_ints hx] at e1
        rw [el_ints hy] at e2
        have hr := HR.out
        rw [drop_cons hx, drop_cons hy] at hr
        clear hc hc' HR hx hy
        by_cases e : x = y
        · subst e
          have HR : Hid (decide (l1.drop (k + 1) = l2.drop (k + 1)) = R) := Lib.hid (by rw [← hr]; exact decide_eq_decide.2 ⟨fun h => by rw [h], fun h => (List.cons.inj h).2⟩)
          clear hr
          go_wp2
          go_region
          replace HX := Lib.hid (HX.out.drew 1)
          replace HY := Lib.hid (HY.out.drew 1)
          replace HB := keepB1 HB
          go_wp2
          go_roundw
          case rel => exact ⟨k + 1, by omega, by first | trivial | go_num, HR, HX, HY, HB⟩
          case measure => simp [intOf]; omega
        · have hne : ((x.toNat : Int) != (y.toNat : Int)) = true := bne_iff_ne.2 (fun h => e (UInt8.toNat_inj.1 (by omega)))
          have hr' : R = false := by rw [← hr]; exact decide_eq_false (fun h => e (List.cons.inj h).1)
          subst hr'
          clear hr
          go_wp2
          go_region
          replace HB := keepB1 HB
          go_wp2
          go_ret
          exact ⟨rfl, HB.out.1⟩
      · obtain rfl : k = l1.length := by omega
        have hr := HR.out
        have hr' : R = true := by rw [← hr]; exact decide_eq_true (by rw [List.drop_eq_nil_of_le (Nat.le_refl _), List.drop_eq_nil_of_le (by rw [HN.out]; omega)])
        subst hr'
        clear hr
        go_wp2
        go_ret
        exact ⟨rfl, HB.out.1⟩
  · have hr' : R = false := by rw [← hR]; exact decide_eq_false (fun h => q (by rw [h]))
    subst hr'
    have hne : ((l1.length : Int) != (l2.length : Int)) = true := bne_iff_ne.2 (by omega)
    clear hR
    go_enter Tryd.func22, Tryd.ntmps22
    go_wp2
    go_ret
    exact ⟨rfl, HB.out.1⟩
theorem RdSgG.drew {w : World} {A : Option Addr} {ms : List SegM} (h : RdSgG w A ms) (m : Nat) : RdSgG (w.drewN m) A ms := h
theorem cell_below {w w' : World} {a : Addr} {v : Value} (h : w.cell? a = some v) (hb : Below w.heap.size w w') : w'.cell? a = some v := (hb.cell (World.block_lt_of_cell? w _ h)).trans h
set_option maxRecDepth 100000 in
set_option maxHeartbeats 4000000 in
theorem image_any (s1 c1 s2 c2 : Nat) (S1 S2 : Option Addr) (xs ys : List SegM) (w : World) (h1 : RdSgG w S1 xs) (h2 : RdSgG w S2 ys) (hmx : xs.length ≤ 9223372036854775806) (hmy : ys.length ≤ 9223372036854775806) :
    Calls Tryd.prog 17 #[.agg (imA s1 S1 xs.length c1), .agg (imA s2 S2 ys.length c2)] w fun e w' => e = .returned (.bool (decide (s1 = s2 ∧ xs.map SegM.v = ys.map SegM.v))) ∧ Below w.heap.size w w' := by
  have HX := Lib.hid h1
  have HY := Lib.hid h2
  have HB := startB w
  clear h1 h2
  obtain ⟨R, hR⟩ : ∃ R, decide (s1 = s2 ∧ xs.map SegM.v = ys.map SegM.v) = R := ⟨_, rfl⟩
  rw [hR]
  obtain ⟨n2, hn2⟩ : ∃ n, ys.length = n := ⟨_, rfl⟩
  have HN := Lib.hid hn2
  rw [hn2] at hmy ⊢
  clear hn2
  by_cases qs : s1 = s2
  rotate_left
  · have hr' : R = false := by rw [← hR]; exact decide_eq_false (fun h => qs h.1)
    subst hr'
    have hne : ((s1 : Int) != (s2 : Int)) = true := bne_iff_ne.2 (by omega)
    clear hR
    go_enter Tryd.func17, Tryd.ntmps17
    go_wp2_with (first | (refine wlBox ?_ 25 _ rfl (imA s1 S1 xs.length c1) rfl ?_; exact rfl; intro gI w1 hg hl ha hb; replace HX := Lib.hid (HX.out.below hb); replace HY := Lib.hid (HY.out.below hb); replace HB := keepB HB hb; have HI := Lib.hid ha; have i0 : w1.cell? ⟨gI, 0, none⟩ = some (.int .u32 s1) := cellA HI 0; have i1 : w1.cell? ⟨gI, 1, none⟩ = some (.slice S1 xs.length c1) := cellA HI 1; clear ha hb hg hl) | (refine wlBox ?_ 25 _ rfl (imA s2 S2 n2 c2) rfl ?_; exact rfl; intro gJ w2 hg hl ha hb; replace HX := Lib.hid (HX.out.below hb); replace HY := Lib.hid (HY.out.below hb); replace HB := keepB HB hb; replace HI := keepA HI hb; have HJ := Lib.hid ha; have i0 : w2.cell? ⟨gI, 0, none⟩ = some (.int .u32 s1) := cellA HI 0; have i1 : w2.cell? ⟨gI, 1, none⟩ = some (.slice S1 xs.length c1) := cellA HI 1; have j0 : w2.cell? ⟨gJ, 0, none⟩ = some (.int .u32 s2) := cellA HJ 0; have j1 : w2.cell? ⟨gJ, 1, none⟩ = some (.slice S2 n2 c2) := cellA HJ 1; clear ha hb hg hl))
    go_ret
    exact ⟨rfl, HB.out.1⟩
  subst qs
  by_cases q : xs.length = n2
  rotate_left
  · have hr' : R = false := by rw [← hR]; exact decide_eq_false (fun h => q (by have := congrArg List.length h.2; rw [List.length_map, List.length_map, HN.out] at this; exact this))
    subst hr'
    have hne : ((xs.length : Int) != (n2 : Int)) = true := bne_iff_ne.2 (by omega)
    clear hR
    go_enter Tryd.func17, Tryd.ntmps17
    go_wp2_with (first | (refine wlBox ?_ 25 _ rfl (imA s1 S1 xs.length c1) rfl ?_; exact rfl; intro gI w1 hg hl ha hb; replace HX := Lib.hid (HX.out.below hb); replace HY := Lib.hid (HY.out.below hb); replace HB := keepB HB hb; have HI := Lib.hid ha; have i0 : w1.cell? ⟨gI, 0, none⟩ = some (.int .u32 s1) := cellA HI 0; have i1 : w1.cell? ⟨gI, 1, none⟩ = some (.slice S1 xs.length c1) := cellA HI 1; clear ha hb hg hl) | (refine wlBox ?_ 25 _ rfl (imA s1 S2 n2 c2) rfl ?_; exact rfl; intro gJ w2 hg hl ha hb; replace HX := Lib.hid (HX.out.below hb); replace HY := Lib.hid (HY.out.below hb); replace HB := keepB HB hb; replace HI := keepA HI hb; have HJ := Lib.hid ha; have i0 : w2.cell? ⟨gI, 0, none⟩ = some (.int .u32 s1) := cellA HI 0; have i1 : w2.cell? ⟨gI, 1, none⟩ = some (.slice S1 xs.length c1) := cellA HI 1; have j0 : w2.cell? ⟨gJ, 0, none⟩ = some (.int .u32 s1) := cellA HJ 0; have j1 : w2.cell? ⟨gJ, 1, none⟩ = some (.slice S2 n2 c2) := cellA HJ 1; clear ha hb hg hl))
    go_ret
    exact ⟨rfl, HB.out.1⟩
  subst q
  have HR : Hid (decide ((xs.drop 0).map SegM.v = (ys.drop 0).map SegM.v) = R) := Lib.hid (by rw [← hR]; exact decide_eq_decide.2 ⟨fun h => ⟨rfl, h⟩, fun h => h.2⟩)
  clear hR
  go_enter Tryd.func17, Tryd.ntmps17
  go_wp2_with (first | (refine wlBox ?_ 25 _ rfl (imA s1 S1 xs.length c1) rfl ?_; exact rfl; intro gI w1 hg hl ha hb; replace HX := Lib.hid (HX.out.below hb); replace HY := Lib.hid (HY.out.below hb); replace HB := keepB HB hb; have HI := Lib.hid ha; have i0 : w1.cell? ⟨gI, 0, none⟩ = some (.int .u32 s1) := cellA HI 0; have i1 : w1.cell? ⟨gI, 1, none⟩ = some (.slice S1 xs.length c1) := cellA HI 1; clear ha hb hg hl) | (refine wlBox ?_ 25 _ rfl (imA s1 S2 xs.length c2) rfl ?_; exact rfl; intro gJ w2 hg hl ha hb; replace HX := Lib.hid (HX.out.below hb); replace HY := Lib.hid (HY.out.below hb); replace HB := keepB HB hb; replace HI := keepA HI hb; have HJ := Lib.hid ha; have i0 : w2.cell? ⟨gI, 0, none⟩ = some (.int .u32 s1) := cellA HI 0; have i1 : w2.cell? ⟨gI, 1, none⟩ = some (.slice S1 xs.length c1) := cellA HI 1; have j0 : w2.cell? ⟨gJ, 0, none⟩ = some (.int .u32 s1) := cellA HJ 0; have j1 : w2.cell? ⟨gJ, 1, none⟩ = some (.slice S2 xs.length c2) := cellA HJ 1; clear ha hb hg hl))
  clear i0 i1 j0 j1
  go_loopw [5] (fun i wr => ∃ (k : Nat), k ≤ xs.length ∧ i = .int .i64 k ∧ Hid (decide ((xs.drop k).map SegM.v = (ys.drop k).map SegM.v) = R) ∧ Hid (RdSgG wr S1 xs) ∧ Hid (RdSgG wr S2 ys) ∧ Hid (wr.heap[gI]? = some (.cells (imA s1 S1 xs.length c1) 25 (0, 0))) ∧ Hid (wr.heap[gJ]? = some (.cells (imA s1 S2 xs.length c2) 25 (0, 0))) ∧ Hid (Below w.heap.size w wr ∧ w.heap.size ≤ wr.heap.size)) (fun i _ => xs.length - (intOf i).toNat)
  case atStart => exact ⟨0, Nat.zero_le _, by first | trivial | rfl, HR, HX, HY, HI, HJ, HB⟩
  case round =>
    clear HX HY HB HR HI HJ
    obtain ⟨k, hk, rfl, HR, HX, HY, HI, HJ, HB⟩ := hrel
    have i1 : wr.cell? ⟨gI, 1, none⟩ = some (.slice S1 xs.length c1) := cellA HI 1
    have j1 : wr.cell? ⟨gJ, 1, none⟩ = some (.slice S2 xs.length c2) := cellA HJ 1
    by_cases hlt : k < xs.length
    · have hlt2 : k < xs.length := by omega
      obtain ⟨x, hx⟩ : ∃ m, xs[k]? = some m := ⟨_, List.getElem?_eq_getElem hlt⟩
      obtain ⟨y, hy⟩ : ∃ m, ys[k]? = some m := ⟨_, List.getElem?_eq_getElem (by rw [HN.out]; exact hlt2)⟩
      obtain ⟨b1, o1, rfl, _, hc1⟩ := HX.out.1.2.2 (by omega)
      obtain ⟨b2, o2, rfl, _, hc2⟩ := HY.out.1.2.2 (by rw [HN.out]; omega)
      obtain ⟨_, mx, _, hrx⟩ := HX.out.2 x (List.mem_of_getElem? hx)
      obtain ⟨_, my, _, hry⟩ := HY.out.2 y (List.mem_of_getElem? hy)
      have HS : Hid ((fun w' => w'.cell? ⟨gI, 1, none⟩ = some (.slice (some ⟨b1, o1, none⟩) xs.length c1) ∧ w'.cell? ⟨gJ, 1, none⟩ = some (.slice (some ⟨b2, o2, none⟩) xs.length c2) ∧ w'.cell? ⟨b1, o1 + k * 2, none⟩ = some (.int .u32 x.at_) ∧ w'.cell? ⟨b1, o1 + k * 2 + 1, none⟩ = some (.slice x.D x.d.length x.c) ∧ w'.cell? ⟨b2, o2 + k * 2, none⟩ = some (.int .u32 y.at_) ∧ w'.cell? ⟨b2, o2 + k * 2 + 1, none⟩ = some (.slice y.D y.d.length y.c)) wr) := Lib.hid ⟨i1, j1, hc1 k (sA x) (sA_get hx) 0 _ rfl, hc1 k (sA x) (sA_get hx) 1 _ rfl, hc2 k (sA y) (sA_get hy) 0 _ rfl, hc2 k (sA y) (sA_get hy) 1 _ rfl⟩
      have hr := HR.out
      rw [drop_cons hx, drop_cons hy, List.map_cons, List.map_cons] at hr
      have HRX := Lib.hid (hrx.drew 1)
      have HRY := Lib.hid (hry.drew 1)
      replace mx : x.d.length ≤ 9223372036854775807 := mx
      replace my : y.d.length ≤ 9223372036854775807 := my
      have ex : x.v = y.v ↔ x.at_ = y.at_ ∧ x.d = y.d := (segV_iff x.v y.v).symm
      clear hc1 hc2 hx hy hrx hry HR
      by_cases qa : x.at_ = y.at_
      · obtain ⟨bd, hbd⟩ : ∃ b, decide (x.d = y.d) = b := ⟨_, rfl⟩
        have HBD := Lib.hid hbd
        have HRR := Lib.hid hr
        have HEX := Lib.hid ex
        clear hbd hr ex
        have hne : ((x.at_ : Int) != (y.at_ : Int)) = false := by rw [qa]; simp
        have HQA := Lib.hid qa
        clear qa
        go_wp2
        clear i1 j1
        replace HX := Lib.hid (HX.out.drew 1)
        replace HY := Lib.hid (HY.out.drew 1)
        replace HB := keepB1 HB
        replace HI := keepA1 HI
        replace HJ := keepA1 HJ
        replace HS : Hid ((fun w' => w'.cell? ⟨gI, 1, none⟩ = some (.slice (some ⟨b1, o1, none⟩) xs.length c1) ∧ w'.cell? ⟨gJ, 1, none⟩ = some (.slice (some ⟨b2, o2, none⟩) xs.length c2) ∧ w'.cell? ⟨b1, o1 + k * 2, none⟩ = some (.int .u32 x.at_) ∧ w'.cell? ⟨b1, o1 + k * 2 + 1, none⟩ = some (.slice x.D x.d.length x.c) ∧ w'.cell? ⟨b2, o2 + k * 2, none⟩ = some (.int .u32 y.at_) ∧ w'.cell? ⟨b2, o2 + k * 2 + 1, none⟩ = some (.slice y.D y.d.length y.c)) (wr.drewN 1)) := Lib.hid HS.out
        refine rgStart (S := (fun w' => w'.cell? ⟨gI, 1, none⟩ = some (.slice (some ⟨b1, o1, none⟩) xs.length c1) ∧ w'.cell? ⟨gJ, 1, none⟩ = some (.slice (some ⟨b2, o2, none⟩) xs.length c2) ∧ w'.cell? ⟨b1, o1 + k * 2, none⟩ = some (.int .u32 x.at_) ∧ w'.cell? ⟨b1, o1 + k * 2 + 1, none⟩ = some (.slice x.D x.d.length x.c) ∧ w'.cell? ⟨b2, o2 + k * 2, none⟩ = some (.int .u32 y.at_) ∧ w'.cell? ⟨b2, o2 + k * 2 + 1, none⟩ = some (.slice y.D y.d.length y.c))) (n := 29) #[false, false, false, false, false, false, false, false, false, false, false, false, false, false, false, false, false, false, false, false, false, false, false, false, false, false, false, false, false] (by kernel_rfl) rfl rfl HS.out (fun hHeld => ?_)
        refine rgTake (i := 0) (N := some 34) (oi := { dst := some 34, op := Op.fieldAddr 25 (Operand.tmp 2) 1, type := 0, pos := "same.go:303", after := #[], guard := none }) (v := ?_) #[true, false, false, false, false, false, false, false, false, false, false, false, false, false, false, false, false, false, false, false, false, false, false, false, false, false, false, false, false] rfl rfl (by kernel_rfl) (fun _ _ _ h => h) (Or.inl ⟨by rfl, ?_⟩) hHeld ?_
        rotate_left
        · intro w' hSw; (try dsimp only at hSw); (obtain ⟨k1, k2, k3, k4, k5, k6⟩ := hSw); go_simp; try with_reducible rfl
        simp only [Act.put, List.setIfInBounds_toArray, List.set_cons_zero, List.set_cons_succ]
        refine rgTake (i := 1) (N := some 35) (oi := { dst := some 35, op := Op.load 23 (Operand.tmp 34), type := 23, pos := "same.go:303", after := #[{ on := 0, ground := Ground.data }], guard := none }) (v := ?_) #[true, true, false, false, false, false, false, false, false, false, false, false, false, false, false, false, false, false, false, false, false, false, false, false, false, false, false, false, false] rfl rfl (by kernel_rfl) (fun _ _ _ h => h) (Or.inl ⟨by rfl, ?_⟩) hHeld ?_
        rotate_left
        · intro w' hSw; (try dsimp only at hSw); (obtain ⟨k1, k2, k3, k4, k5, k6⟩ := hSw); go_simp; try with_reducible rfl
        simp only [Act.put, List.setIfInBounds_toArray, List.set_cons_zero, List.set_cons_succ]
        refine rgTake (i := 2) (N := some 36) (oi := { dst := some 36, op := Op.move (Operand.tmp 5), type := 3, pos := "same.go:303", after := #[], guard := none }) (v := ?_) #[true, true, true, false, false, false, false, false, false, false, false, false, false, false, false, false, false, false, false, false, false, false, false, false, false, false, false, false, false] rfl rfl (by kernel_rfl) (fun _ _ _ h => h) (Or.inl ⟨by rfl, ?_⟩) hHeld ?_
        rotate_left
        · intro w' hSw; (try dsimp only at hSw); (obtain ⟨k1, k2, k3, k4, k5, k6⟩ := hSw); go_simp; try with_reducible rfl
        simp only [Act.put, List.setIfInBounds_toArray, List.set_cons_zero, List.set_cons_succ]
        refine rgTake (i := 3) (N := some 37) (oi := { dst := some 37, op := Op.indexAddr 23 (Operand.tmp 35) (Operand.tmp 36), type := 0, pos := "same.go:303", after := #[{ on := 1, ground := Ground.data }, { on := 2, ground := Ground.data }], guard := none }) (v := _) #[true, true, true, true, false, false, false, false, false, false, false, false, false, false, false, false, false, false, false, false, false, false, false, false, false, false, false, false, false] rfl rfl (by kernel_rfl) (fun _ _ _ h => h) (yieldsIdx (by rfl) 23 _ _ rfl 51 2 Tryd.underlying23 sizeSeg b1 o1 xs.length c1 k rfl rfl hlt) hHeld ?_
        simp only [Act.put, List.setIfInBounds_toArray, List.set_cons_zero, List.set_cons_succ]
        refine rgTake (i := 4) (N := some 38) (oi := { dst := some 38, op := Op.fieldAddr 51 (Operand.tmp 37) 0, type := 0, pos := "same.go:303", after := #[{ on := 3, ground := Ground.data }], guard := none }) (v := ?_) #[true, true, true, true, true, false, false, false, false, false, false, false, false, false, false, false, false, false, false, false, false, false, false, false, false, false, false, false, false] rfl rfl (by kernel_rfl) (fun _ _ _ h => h) (Or.inl ⟨by rfl, ?_⟩) hHeld ?_
        rotate_left
        · intro w' hSw; (try dsimp only at hSw); (obtain ⟨k1, k2, k3, k4, k5, k6⟩ := hSw); go_simp; try with_reducible rfl
        simp only [Act.put, List.setIfInBounds_toArray, List.set_cons_zero, List.set_cons_succ]
        refine rgTake (i := 5) (N := some 39) (oi := { dst := some 39, op := Op.load 22 (Operand.tmp 38), type := 22, pos := "same.go:303", after := #[{ on := 4, ground := Ground.data }], guard := none }) (v := ?_) #[true, true, true, true, true, true, false, false, false, false, false, false, false, false, false, false, false, false, false, false, false, false, false, false, false, false, false, false, false] rfl rfl (by kernel_rfl) (fun _ _ _ h => h) (Or.inl ⟨by rfl, ?_⟩) hHeld ?_
        rotate_left
        · intro w' hSw; (try dsimp only at hSw); (obtain ⟨k1, k2, k3, k4, k5, k6⟩ := hSw); go_simp; try with_reducible rfl
        simp only [Act.put, List.setIfInBounds_toArray, List.set_cons_zero, List.set_cons_succ]
        refine rgTake (i := 6) (N := some 40) (oi := { dst := some 40, op := Op.fieldAddr 25 (Operand.tmp 3) 1, type := 0, pos := "same.go:303", after := #[], guard := none }) (v := ?_) #[true, true, true, true, true, true, true, false, false, false, false, false, false, false, false, false, false, false, false, false, false, false, false, false, false, false, false, false, false] rfl rfl (by kernel_rfl) (fun _ _ _ h => h) (Or.inl ⟨by rfl, ?_⟩) hHeld ?_
        rotate_left
        · intro w' hSw; (try dsimp only at hSw); (obtain ⟨k1, k2, k3, k4, k5, k6⟩ := hSw); go_simp; try with_reducible rfl
        simp only [Act.put, List.setIfInBounds_toArray, List.set_cons_zero, List.set_cons_succ]
        refine rgTake (i := 7) (N := some 41) (oi := { dst := some 41, op := Op.load 23 (Operand.tmp 40), type := 23, pos := "same.go:303", after := #[{ on := 6, ground := Ground.data }], guard := none }) (v := ?_) #[true, true, true, true, true, true, true, true, false, false, false, false, false, false, false, false, false, false, false, false, false, false, false, false, false, false, false, false, false] rfl rfl (by kernel_rfl) (fun _ _ _ h => h) (Or.inl ⟨by rfl, ?_⟩) hHeld ?_
        rotate_left
        · intro w' hSw; (try dsimp only at hSw); (obtain ⟨k1, k2, k3, k4, k5, k6⟩ := hSw); go_simp; try with_reducible rfl
        simp only [Act.put, List.setIfInBounds_toArray, List.set_cons_zero, List.set_cons_succ]
        refine rgTake (i := 8) (N := some 42) (oi := { dst := some 42, op := Op.move (Operand.tmp 5), type := 3, pos := "same.go:303", after := #[], guard := none }) (v := ?_) #[true, true, true, true, true, true, true, true, true, false, false, false, false, false, false, false, false, false, false, false, false, false, false, false, false, false, false, false, false] rfl rfl (by kernel_rfl) (fun _ _ _ h => h) (Or.inl ⟨by rfl, ?_⟩) hHeld ?_
        rotate_left
        · intro w' hSw; (try dsimp only at hSw); (obtain ⟨k1, k2, k3, k4, k5, k6⟩ := hSw); go_simp; try with_reducible rfl
        simp only [Act.put, List.setIfInBounds_toArray, List.set_cons_zero, List.set_cons_succ]
        refine rgTake (i := 9) (N := some 43) (oi := { dst := some 43, op := Op.indexAddr 23 (Operand.tmp 41) (Operand.tmp 42), type := 0, pos := "same.go:303", after := #[{ on := 7, ground := Ground.data }, { on := 8, ground := Ground.data }], guard := none }) (v := _) #[true, true, true, true, true, true, true, true, true, true, false, false, false, false, false, false, false, false, false, false, false, false, false, false, false, false, false, false, false] rfl rfl (by kernel_rfl) (fun _ _ _ h => h) (yieldsIdx (by rfl) 23 _ _ rfl 51 2 Tryd.underlying23 sizeSeg b2 o2 xs.length c2 k rfl rfl hlt2) hHeld ?_
        simp only [Act.put, List.setIfInBounds_toArray, List.set_cons_zero, List.set_cons_succ]
        refine rgTake (i := 10) (N := some 44) (oi := { dst := some 44, op := Op.fieldAddr 51 (Operand.tmp 43) 0, type := 0, pos := "same.go:303", after := #[{ on := 9, ground := Ground.data }], guard := none }) (v := ?_) #[true, true, true, true, true, true, true, true, true, true, true, false, false, false, false, false, false, false, false, false, false, false, false, false, false, false, false, false, false] rfl rfl (by kernel_rfl) (fun _ _ _ h => h) (Or.inl ⟨by rfl, ?_⟩) hHeld ?_
        rotate_left
        · intro w' hSw; (try dsimp only at hSw); (obtain ⟨k1, k2, k3, k4, k5, k6⟩ := hSw); go_simp; try with_reducible rfl
        simp only [Act.put, List.setIfInBounds_toArray, List.set_cons_zero, List.set_cons_succ]
        refine rgTake (i := 11) (N := some 45) (oi := { dst := some 45, op := Op.load 22 (Operand.tmp 44), type := 22, pos := "same.go:303", after := #[{ on := 10, ground := Ground.data }], guard := none }) (v := ?_) #[true, true, true, true, true, true, true, true, true, true, true, true, false, false, false, false, false, false, false, false, false, false, false, false, false, false, false, false, false] rfl rfl (by kernel_rfl) (fun _ _ _ h => h) (Or.inl ⟨by rfl, ?_⟩) hHeld ?_
        rotate_left
        · intro w' hSw; (try dsimp only at hSw); (obtain ⟨k1, k2, k3, k4, k5, k6⟩ := hSw); go_simp; try with_reducible rfl
        simp only [Act.put, List.setIfInBounds_toArray, List.set_cons_zero, List.set_cons_succ]
        refine rgTake (i := 12) (N := some 46) (oi := { dst := some 46, op := Op.binOp BinOp.neq 22 (Operand.tmp 39) (Operand.tmp 45) 22, type := 4, pos := "same.go:303", after := #[{ on := 5, ground := Ground.data }, { on := 11, ground := Ground.data }], guard := none }) (v := ?_) #[true, true, true, true, true, true, true, true, true, true, true, true, true, false, false, false, false, false, false, false, false, false, false, false, false, false, false, false, false] rfl rfl (by kernel_rfl) (fun _ _ _ h => h) (Or.inl ⟨by rfl, ?_⟩) hHeld ?_
        rotate_left
        · intro w' hSw; (try dsimp only at hSw); (obtain ⟨k1, k2, k3, k4, k5, k6⟩ := hSw); go_simp; try with_reducible rfl
        simp only [Act.put, List.setIfInBounds_toArray, List.set_cons_zero, List.set_cons_succ]
        refine rgTake (i := 13) (N := some 47) (oi := { dst := some 47, op := Op.move (Operand.tmp 46), type := 4, pos := "same.go:303", after := #[{ on := 12, ground := Ground.data }], guard := none }) (v := ?_) #[true, true, true, true, true, true, true, true, true, true, true, true, true, true, false, false, false, false, false, false, false, false, false, false, false, false, false, false, false] rfl rfl (by kernel_rfl) (fun _ _ _ h => h) (Or.inl ⟨by rfl, ?_⟩) hHeld ?_
        rotate_left
        · intro w' hSw; (try dsimp only at hSw); (obtain ⟨k1, k2, k3, k4, k5, k6⟩ := hSw); go_simp; try with_reducible rfl
        simp only [Act.put, List.setIfInBounds_toArray, List.set_cons_zero, List.set_cons_succ]
        refine rgTake (i := 14) (N := some 48) (oi := { dst := some 48, op := Op.fieldAddr 25 (Operand.tmp 2) 1, type := 0, pos := "same.go:303", after := #[{ on := 13, ground := Ground.guard }], guard := some (13, false) }) (v := ?_) #[true, true, true, true, true, true, true, true, true, true, true, true, true, true, true, false, false, false, false, false, false, false, false, false, false, false, false, false, false] rfl rfl (by kernel_rfl) (fun _ _ _ h => h) (Or.inl ⟨by rfl, ?_⟩) hHeld ?_
        rotate_left
        · intro w' hSw; (try dsimp only at hSw); (obtain ⟨k1, k2, k3, k4, k5, k6⟩ := hSw); go_simp; try with_reducible rfl
        simp only [Act.put, List.setIfInBounds_toArray, List.set_cons_zero, List.set_cons_succ]
        refine rgTake (i := 15) (N := some 49) (oi := { dst := some 49, op := Op.load 23 (Operand.tmp 48), type := 23, pos := "same.go:303", after := #[{ on := 14, ground := Ground.data }, { on := 13, ground := Ground.guard }], guard := some (13, false) }) (v := ?_) #[true, true, true, true, true, true, true, true, true, true, true, true, true, true, true, true, false, false, false, false, false, false, false, false, false, false, false, false, false] rfl rfl (by kernel_rfl) (fun _ _ _ h => h) (Or.inl ⟨by rfl, ?_⟩) hHeld ?_
        rotate_left
        · intro w' hSw; (try dsimp only at hSw); (obtain ⟨k1, k2, k3, k4, k5, k6⟩ := hSw); go_simp; try with_reducible rfl
        simp only [Act.put, List.setIfInBounds_toArray, List.set_cons_zero, List.set_cons_succ]
        refine rgTake (i := 16) (N := some 50) (oi := { dst := some 50, op := Op.move (Operand.tmp 5), type := 3, pos := "same.go:303", after := #[{ on := 13, ground := Ground.guard }], guard := some (13, false) }) (v := ?_) #[true, true, true, true, true, true, true, true, true, true, true, true, true, true, true, true, true, false, false, false, false, false, false, false, false, false, false, false, false] rfl rfl (by kernel_rfl) (fun _ _ _ h => h) (Or.inl ⟨by rfl, ?_⟩) hHeld ?_
        rotate_left
        · intro w' hSw; (try dsimp only at hSw); (obtain ⟨k1, k2, k3, k4, k5, k6⟩ := hSw); go_simp; try with_reducible rfl
        simp only [Act.put, List.setIfInBounds_toArray, List.set_cons_zero, List.set_cons_succ]
        refine rgTake (i := 17) (N := some 51) (oi := { dst := some 51, op := Op.indexAddr 23 (Operand.tmp 49) (Operand.tmp 50), type := 0, pos := "same.go:303", after := #[{ on := 15, ground := Ground.data }, { on := 16, ground := Ground.data }, { on := 13, ground := Ground.guard }], guard := some (13, false) }) (v := _) #[true, true, true, true, true, true, true, true, true, true, true, true, true, true, true, true, true, true, false, false, false, false, false, false, false, false, false, false, false] rfl rfl (by kernel_rfl) (fun _ _ _ h => h) (yieldsIdx (by rfl) 23 _ _ rfl 51 2 Tryd.underlying23 sizeSeg b1 o1 xs.length c1 k rfl rfl hlt) hHeld ?_
        simp only [Act.put, List.setIfInBounds_toArray, List.set_cons_zero, List.set_cons_succ]
        refine rgTake (i := 18) (N := some 52) (oi := { dst := some 52, op := Op.fieldAddr 51 (Operand.tmp 51) 1, type := 0, pos := "same.go:303", after := #[{ on := 17, ground := Ground.data }, { on := 13, ground := Ground.guard }], guard := some (13, false) }) (v := ?_) #[true, true, true, true, true, true, true, true, true, true, true, true, true, true, true, true, true, true, true, false, false, false, false, false, false, false, false, false, false] rfl rfl (by kernel_rfl) (fun _ _ _ h => h) (Or.inl ⟨by rfl, ?_⟩) hHeld ?_
        rotate_left
        · intro w' hSw; (try dsimp only at hSw); (obtain ⟨k1, k2, k3, k4, k5, k6⟩ := hSw); go_simp; try with_reducible rfl
        simp only [Act.put, List.setIfInBounds_toArray, List.set_cons_zero, List.set_cons_succ]
        refine rgTake (i := 19) (N := some 53) (oi := { dst := some 53, op := Op.load 26 (Operand.tmp 52), type := 26, pos := "same.go:303", after := #[{ on := 18, ground := Ground.data }, { on := 13, ground := Ground.guard }], guard := some (13, false) }) (v := ?_) #[true, true, true, true, true, true, true, true, true, true, true, true, true, true, true, true, true, true, true, true, false, false, false, false, false, false, false, false, false] rfl rfl (by kernel_rfl) (fun _ _ _ h => h) (Or.inl ⟨by rfl, ?_⟩) hHeld ?_
        rotate_left
        · intro w' hSw; (try dsimp only at hSw); (obtain ⟨k1, k2, k3, k4, k5, k6⟩ := hSw); go_simp; try with_reducible rfl
        simp only [Act.put, List.setIfInBounds_toArray, List.set_cons_zero, List.set_cons_succ]
        refine rgTake (i := 20) (N := some 54) (oi := { dst := some 54, op := Op.fieldAddr 25 (Operand.tmp 3) 1, type := 0, pos := "same.go:303", after := #[{ on := 13, ground := Ground.guard }], guard := some (13, false) }) (v := ?_) #[true, true, true, true, true, true, true, true, true, true, true, true, true, true, true, true, true, true, true, true, true, false, false, false, false, false, false, false, false] rfl rfl (by kernel_rfl) (fun _ _ _ h => h) (Or.inl ⟨by rfl, ?_⟩) hHeld ?_
        rotate_left
        · intro w' hSw; (try dsimp only at hSw); (obtain ⟨k1, k2, k3, k4, k5, k6⟩ := hSw); go_simp; try with_reducible rfl
        simp only [Act.put, List.setIfInBounds_toArray, List.set_cons_zero, List.set_cons_succ]
        refine rgTake (i := 21) (N := some 55) (oi := { dst := some 55, op := Op.load 23 (Operand.tmp 54), type := 23, pos := "same.go:303", after := #[{ on := 20, ground := Ground.data }, { on := 13, ground := Ground.guard }], guard := some (13, false) }) (v := ?_) #[true, true, true, true, true, true, true, true, true, true, true, true, true, true, true, true, true, true, true, true, true, true, false, false, false, false, false, false, false] rfl rfl (by kernel_rfl) (fun _ _ _ h => h) (Or.inl ⟨by rfl, ?_⟩) hHeld ?_
        rotate_left
        · intro w' hSw; (try dsimp only at hSw); (obtain ⟨k1, k2, k3, k4, k5, k6⟩ := hSw); go_simp; try with_reducible rfl
        simp only [Act.put, List.setIfInBounds_toArray, List.set_cons_zero, List.set_cons_succ]
        refine rgTake (i := 22) (N := some 56) (oi := { dst := some 56, op := Op.move (Operand.tmp 5), type := 3, pos := "same.go:303", after := #[{ on := 13, ground := Ground.guard }], guard := some (13, false) }) (v := ?_) #[true, true, true, true, true, true, true, true, true, true, true, true, true, true, true, true, true, true, true, true, true, true, true, false, false, false, false, false, false] rfl rfl (by kernel_rfl) (fun _ _ _ h => h) (Or.inl ⟨by rfl, ?_⟩) hHeld ?_
        rotate_left
        · intro w' hSw; (try dsimp only at hSw); (obtain ⟨k1, k2, k3, k4, k5, k6⟩ := hSw); go_simp; try with_reducible rfl
        simp only [Act.put, List.setIfInBounds_toArray, List.set_cons_zero, List.set_cons_succ]
        refine rgTake (i := 23) (N := some 57) (oi := { dst := some 57, op := Op.indexAddr 23 (Operand.tmp 55) (Operand.tmp 56), type := 0, pos := "same.go:303", after := #[{ on := 21, ground := Ground.data }, { on := 22, ground := Ground.data }, { on := 13, ground := Ground.guard }], guard := some (13, false) }) (v := _) #[true, true, true, true, true, true, true, true, true, true, true, true, true, true, true, true, true, true, true, true, true, true, true, true, false, false, false, false, false] rfl rfl (by kernel_rfl) (fun _ _ _ h => h) (yieldsIdx (by rfl) 23 _ _ rfl 51 2 Tryd.underlying23 sizeSeg b2 o2 xs.length c2 k rfl rfl hlt2) hHeld ?_
        simp only [Act.put, List.setIfInBounds_toArray, List.set_cons_zero, List.set_cons_succ]
        refine rgTake (i := 24) (N := some 58) (oi := { dst := some 58, op := Op.fieldAddr 51 (Operand.tmp 57) 1, type := 0, pos := "same.go:303", after := #[{ on := 23, ground := Ground.data }, { on := 13, ground := Ground.guard }], guard := some (13, false) }) (v := ?_) #[true, true, true, true, true, true, true, true, true, true, true, true, true, true, true, true, true, true, true, true, true, true, true, true, true, false, false, false, false] rfl rfl (by kernel_rfl) (fun _ _ _ h => h) (Or.inl ⟨by rfl, ?_⟩) hHeld ?_
        rotate_left
        · intro w' hSw; (try dsimp only at hSw); (obtain ⟨k1, k2, k3, k4, k5, k6⟩ := hSw); go_simp; try with_reducible rfl
        simp only [Act.put, List.setIfInBounds_toArray, List.set_cons_zero, List.set_cons_succ]
        refine rgTake (i := 25) (N := some 59) (oi := { dst := some 59, op := Op.load 26 (Operand.tmp 58), type := 26, pos := "same.go:303", after := #[{ on := 24, ground := Ground.data }, { on := 13, ground := Ground.guard }], guard := some (13, false) }) (v := ?_) #[true, true, true, true, true, true, true, true, true, true, true, true, true, true, true, true, true, true, true, true, true, true, true, true, true, true, false, false, false] rfl rfl (by kernel_rfl) (fun _ _ _ h => h) (Or.inl ⟨by rfl, ?_⟩) hHeld ?_
        rotate_left
        · intro w' hSw; (try dsimp only at hSw); (obtain ⟨k1, k2, k3, k4, k5, k6⟩ := hSw); go_simp; try with_reducible rfl
        simp only [Act.put, List.setIfInBounds_toArray, List.set_cons_zero, List.set_cons_succ]
        refine rgCall (i := 26) (N := some 60) (oi := { dst := some 60, op := Op.call { callee := Callee.value (Operand.func 22), args := #[Operand.tmp 53, Operand.tmp 59], argTypes := #[26, 26] }, type := 4, pos := "same.go:303", after := #[{ on := 19, ground := Ground.data }, { on := 25, ground := Ground.data }, { on := 13, ground := Ground.chain }, { on := 13, ground := Ground.guard }], guard := some (13, false) }) #[true, true, true, true, true, true, true, true, true, true, true, true, true, true, true, true, true, true, true, true, true, true, true, true, true, true, true, false, false] rfl rfl (by kernel_rfl) (fun K hK => ?_)
        go_simp
        (go_at_call 22; refine (bytesS_any x.D y.D x.c y.c x.d y.d _ HRX.out HRY.out mx my).mono ?_; rw [HBD.out]; rintro e w3 ⟨rfl, hb⟩; replace HX := Lib.hid (HX.out.below hb); replace HY := Lib.hid (HY.out.below hb); replace HB := keepB HB hb; replace HI := keepA HI hb; replace HJ := keepA HJ hb; replace HS : Hid ((fun w' => w'.cell? ⟨gI, 1, none⟩ = some (.slice (some ⟨b1, o1, none⟩) xs.length c1) ∧ w'.cell? ⟨gJ, 1, none⟩ = some (.slice (some ⟨b2, o2, none⟩) xs.length c2) ∧ w'.cell? ⟨b1, o1 + k * 2, none⟩ = some (.int .u32 x.at_) ∧ w'.cell? ⟨b1, o1 + k * 2 + 1, none⟩ = some (.slice x.D x.d.length x.c) ∧ w'.cell? ⟨b2, o2 + k * 2, none⟩ = some (.int .u32 y.at_) ∧ w'.cell? ⟨b2, o2 + k * 2 + 1, none⟩ = some (.slice y.D y.d.length y.c)) w3) := Lib.hid ⟨cell_below HS.out.1 hb, cell_below HS.out.2.1 hb, cell_below HS.out.2.2.1 hb, cell_below HS.out.2.2.2.1 hb, cell_below HS.out.2.2.2.2.1 hb, cell_below HS.out.2.2.2.2.2 hb⟩; clear hb HRX HRY)
        refine hK.out _ _ HS.out (fun hHeld => ?_)
        (try simp only [Act.put, List.setIfInBounds_toArray, List.set_cons_zero, List.set_cons_succ])
        clear hK K
        refine rgTake (i := 27) (N := some 61) (oi := { dst := some 61, op := Op.unOp UnOp.not 4 (Operand.tmp 60), type := 4, pos := "same.go:303", after := #[{ on := 26, ground := Ground.data }, { on := 13, ground := Ground.guard }], guard := some (13, false) }) (v := ?_) #[true, true, true, true, true, true, true, true, true, true, true, true, true, true, true, true, true, true, true, true, true, true, true, true, true, true, true, true, false] rfl rfl (by kernel_rfl) (fun _ _ _ h => h) (Or.inl ⟨by rfl, ?_⟩) hHeld ?_
        rotate_left
        · intro w' hSw; (try dsimp only at hSw); (obtain ⟨k1, k2, k3, k4, k5, k6⟩ := hSw); go_simp; try with_reducible rfl
        simp only [Act.put, List.setIfInBounds_toArray, List.set_cons_zero, List.set_cons_succ]
        refine rgTake (i := 28) (N := some 62) (oi := { dst := some 62, op := Op.pick (Operand.tmp 47) (Operand.const (Value.bool true)) (Operand.tmp 61), type := 4, pos := "same.go:303", after := #[{ on := 13, ground := Ground.data }, { on := 27, ground := Ground.data }], guard := none }) (v := ?_) #[true, true, true, true, true, true, true, true, true, true, true, true, true, true, true, true, true, true, true, true, true, true, true, true, true, true, true, true, true] rfl rfl (by kernel_rfl) (fun _ _ _ h => h) (Or.inl ⟨by rfl, ?_⟩) hHeld ?_
        rotate_left
        · intro w' hSw; (try dsimp only at hSw); (obtain ⟨k1, k2, k3, k4, k5, k6⟩ := hSw); go_simp; try with_reducible rfl
        simp only [Act.put, List.setIfInBounds_toArray, List.set_cons_zero, List.set_cons_succ]
        refine rgDone (by kernel_rfl) ?_ _
        cases bd with
        | true =>
          have HR : Hid (decide ((xs.drop (k + 1)).map SegM.v = (ys.drop (k + 1)).map SegM.v) = R) := Lib.hid (by rw [← HRR.out]; exact decide_eq_decide.2 ⟨fun h => by rw [HEX.out.2 ⟨HQA.out, of_decide_eq_true HBD.out⟩, h], fun h => (List.cons.inj h).2⟩)
          clear HRR HEX HQA HBD
          go_wp2
          go_roundw
          case rel => exact ⟨k + 1, by omega, by first | trivial | go_num, HR, HX, HY, HI, HJ, HB⟩
          case measure => simp [intOf]; omega
        | false =>
          have hr' : R = false := by rw [← HRR.out]; exact decide_eq_false (fun h => absurd ((HEX.out.1 (List.cons.inj h).1).2) (of_decide_eq_false HBD.out))
          subst hr'
          go_wp2
          go_ret
          exact ⟨rfl, HB.out.1⟩
      · have hr' : R = false := by rw [← hr]; exact decide_eq_false (fun h => qa (ex.1 (List.cons.inj h).1).1)
        subst hr'
        have hne : ((x.at_ : Int) != (y.at_ : Int)) = true := bne_iff_ne.2 (by omega)
        obtain ⟨_, _, k3, k4, k5, k6⟩ := HS.out
        clear hr ex HS
        go_wp2
        go_region
        replace HB := keepB1 HB
        go_wp2
        go_ret
        exact ⟨rfl, HB.out.1⟩
    · obtain rfl : k = xs.length := by omega
      have hr := HR.out
      have hr' : R = true := by rw [← hr]; exact decide_eq_true (by rw [List.drop_eq_nil_of_le (Nat.le_refl _), List.drop_eq_nil_of_le (by rw [HN.out]; omega)])
      subst hr'
      clear hr HR
      go_wp2
      go_ret
      exact ⟨rfl, HB.out.1⟩
end Go.Proofs.YtnigkecpiolgeaaDoor.My
