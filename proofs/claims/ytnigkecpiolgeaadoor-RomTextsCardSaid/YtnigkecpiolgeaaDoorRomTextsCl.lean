/- RomTexts: the program's lines of an image and its sum of bytes are the reference's: for every image of at most 70 segments and 3000 bytes, and all bytes, at most 300 (of others the chapter's examples alone). -/
import Derived.Test.YtnigkecpiolgeaaDoorRomGe
import Derived.Test.YtnigkecpiolgeaaDoorRomGb
/- Walk: are two slices of bytes one; are two images one. -/
set_option linter.unusedSimpArgs false
set_option linter.unusedVariables false
namespace Go.Proofs.YtnigkecpiolgeaaDoor.My
open Go.RowKit
theorem bytesS_any (A1 A2 : Option Addr) (c1 c2 : Nat) (l1 l2 : List UInt8) (w : World) (h1 : RdA .u8 w A1 l1.length (ints l1)) (h2 : RdA .u8 w A2 l2.length (ints l2)) (hm1 : l1.length ≤ 9223372036854775807) (hm2 : l2.length ≤ 9223372036854775807) : Calls Tryd.prog 22 #[.slice A1 l1.length c1, .slice A2 l2.length c2] w fun e w' => e = .returned (.bool (decide (l1 = l2))) ∧ Below w.heap.size w w' := by
  have HX := Lib.hid h1
  have HY := Lib.hid h2
  have HB := startB w
  clear h1 h2
  obtain ⟨R, hR⟩ : ∃ R, decide (l1 = l2) = R := ⟨_, rfl⟩
  rw [hR]
  by_cases q : l1.length = l2.length
  · have HR : Hid (decide (l1.drop 0 = l2.drop 0) = R) := Lib.hid hR
    clear hR
    obtain ⟨n2, hn2⟩ : ∃ n, l2.length = n := ⟨_, rfl⟩
    have HN := Lib.hid hn2
    rw [hn2] at HY q hm2 ⊢
    clear hn2
    go_enter Tryd.func22, Tryd.ntmps22
    go_wp2
    go_loopw [5] (fun i wr => ∃ (k : Nat), k ≤ l1.length ∧ i = .int .i64 k ∧ Hid (decide (l1.drop k = l2.drop k) = R) ∧ Hid (RdA .u8 wr A1 l1.length (ints l1)) ∧ Hid (RdA .u8 wr A2 n2 (ints l2)) ∧ Hid (Below w.heap.size w wr ∧ w.heap.size ≤ wr.heap.size)) (fun i _ => l1.length - (intOf i).toNat)
    case atStart => exact ⟨0, Nat.zero_le _, rfl, HR, HX, HY, HB⟩
    case round =>
      clear HX HY HB HR
      obtain ⟨k, hk, rfl, HR, HX, HY, HB⟩ := hrel
      by_cases hlt : k < l1.length
      · have hlt2 : k < n2 := by omega
        obtain ⟨b, off, rfl, hc⟩ := HX.out.2 (by omega)
        obtain ⟨b', off', rfl, hc'⟩ := HY.out.2 (by omega)
        obtain ⟨x, hx⟩ : ∃ x, l1[k]? = some x := ⟨_, List.getElem?_eq_getElem hlt⟩
        obtain ⟨y, hy⟩ : ∃ y, l2[k]? = some y := ⟨_, List.getElem?_eq_getElem (by rw [HN.out]; exact hlt2)⟩
        have e1 := hc k hlt
        have e2 := hc' k hlt2
        rw [el_ints hx] at e1
        rw [el_ints hy] at e2
        have hr := HR.out
        rw [drop_cons hx, drop_cons hy] at hr
        clear hc hc' HR hx hy
        by_cases e : x = y
        · subst e
          have HR : Hid (decide (l1.drop (k + 1) = l2.drop (k + 1)) = R) := Lib.hid (by rw [← hr]; exact decide_eq_decide.2 ⟨fun h => by rw [h], fun h => (List.cons.inj h).2⟩)
          clear hr
          go_wp2
          go_region
          replace HX := Lib.hid (HX.out.drew 1)
          replace HY := Lib.hid (HY.out.drew 1)
          replace HB := keepB1 HB
          go_wp2
          go_roundw
          case rel => exact ⟨k + 1, by omega, by first | trivial | go_num, HR, HX, HY, HB⟩
          case measure => simp [intOf]; omega
        · have hne : ((x.toNat : Int) != (y.toNat : Int)) = true := bne_iff_ne.2 (fun h => e (UInt8.toNat_inj.1 (by omega)))
          have hr' : R = false := by rw [← hr]; exact decide_eq_false (fun h => e (List.cons.inj h).1)
          subst hr'
          clear hr
          go_wp2
          go_region
          replace HB := keepB1 HB
          go_wp2
          go_ret
          exact ⟨rfl, HB.out.1⟩
      · obtain rfl : k = l1.length := by omega
        have hr := HR.out
        have hr' : R = true := by rw [← hr]; exact decide_eq_true (by rw [List.drop_eq_nil_of_le (Nat.le_refl _), List.drop_eq_nil_of_le (by rw [HN.out]; omega)])
        subst hr'
        clear hr
        go_wp2
        go_ret
        exact ⟨rfl, HB.out.1⟩
  · have hr' : R = false := by rw [← hR]; exact decide_eq_false (fun h => q (by rw [h]))
    subst hr'
    have hne : ((l1.length : Int) != (l2.length : Int)) = true := bne_iff_ne.2 (by omega)
    clear hR
    go_enter Tryd.func22, Tryd.ntmps22
    go_wp2
    go_ret
    exact ⟨rfl, HB.out.1⟩
theorem RdSgG.drew {w : World} {A : Option Addr} {ms : List SegM} (h : RdSgG w A ms) (m : Nat) : RdSgG (w.drewN m) A ms := h
theorem cell_below {w w' : World} {a : Addr} {v : Value} (h : w.cell? a = some v) (hb : Below w.heap.size w w') : w'.cell? a = some v := (hb.cell (World.block_lt_of_cell? w _ h)).trans h
set_option maxRecDepth 100000 in
set_option maxHeartbeats 4000000 in
theorem image_any (s1 c1 s2 c2 : Nat) (S1 S2 : Option Addr) (xs ys : List SegM) (w : World) (h1 : RdSgG w S1 xs) (h2 : RdSgG w S2 ys) (hmx : xs.length ≤ 9223372036854775806) (hmy : ys.length ≤ 9223372036854775806) :
    Calls Tryd.prog 17 #[.agg (imA s1 S1 xs.length c1), .agg (imA s2 S2 ys.length c2)] w fun e w' => e = .returned (.bool (decide (s1 = s2 ∧ xs.map SegM.v = ys.map SegM.v))) ∧ Below w.heap.size w w' := by
  have HX := Lib.hid h1
  have HY := Lib.hid h2
  have HB := startB w
  clear h1 h2
  obtain ⟨R, hR⟩ : ∃ R, decide (s1 = s2 ∧ xs.map SegM.v = ys.map SegM.v) = R := ⟨_, rfl⟩
  rw [hR]
  obtain ⟨n2, hn2⟩ : ∃ n, ys.length = n := ⟨_, rfl⟩
  have HN := Lib.hid hn2
  rw [hn2] at hmy ⊢
  clear hn2
  by_cases qs : s1 = s2
  rotate_left
  · have hr' : R = false := by rw [← hR]; exact decide_eq_false (fun h => qs h.1)
    subst hr'
    have hne : ((s1 : Int) != (s2 : Int)) = true := bne_iff_ne.2 (by omega)
    clear hR
    go_enter Tryd.func17, Tryd.ntmps17
    go_wp2_with (first | (refine wlBox ?_ 25 _ rfl (imA s1 S1 xs.length c1) rfl ?_; exact rfl; intro gI w1 hg hl ha hb; replace HX := Lib.hid (HX.out.below hb); replace HY := Lib.hid (HY.out.below hb); replace HB := keepB HB hb; have HI := Lib.hid ha; have i0 : w1.cell? ⟨gI, 0, none⟩ = some (.int .u32 s1) := cellA HI 0; have i1 : w1.cell? ⟨gI, 1, none⟩ = some (.slice S1 xs.length c1) := cellA HI 1; clear ha hb hg hl) | (refine wlBox ?_ 25 _ rfl (imA s2 S2 n2 c2) rfl ?_; exact rfl; intro gJ w2 hg hl ha hb; replace HX := Lib.hid (HX.out.below hb); replace HY := Lib.hid (HY.out.below hb); replace HB := keepB HB hb; replace HI := keepA HI hb; have HJ := Lib.hid ha; have i0 : w2.cell? ⟨gI, 0, none⟩ = some (.int .u32 s1) := cellA HI 0; have i1 : w2.cell? ⟨gI, 1, none⟩ = some (.slice S1 xs.length c1) := cellA HI 1; have j0 : w2.cell? ⟨gJ, 0, none⟩ = some (.int .u32 s2) := cellA HJ 0; have j1 : w2.cell? ⟨gJ, 1, none⟩ = some (.slice S2 n2 c2) := cellA HJ 1; clear ha hb hg hl))
    go_ret
    exact ⟨rfl, HB.out.1⟩
  subst qs
  by_cases q : xs.length = n2
  rotate_left
  · have hr' : R = false := by rw [← hR]; exact decide_eq_false (fun h => q (by have := congrArg List.length h.2; rw [List.length_map, List.length_map, HN.out] at this; exact this))
    subst hr'
    have hne : ((xs.length : Int) != (n2 : Int)) = true := bne_iff_ne.2 (by omega)
    clear hR
    go_enter Tryd.func17, Tryd.ntmps17
    go_wp2_with (first | (refine wlBox ?_ 25 _ rfl (imA s1 S1 xs.length c1) rfl ?_; exact rfl; intro gI w1 hg hl ha hb; replace HX := Lib.hid (HX.out.below hb); replace HY := Lib.hid (HY.out.below hb); replace HB := keepB HB hb; have HI := Lib.hid ha; have i0 : w1.cell? ⟨gI, 0, none⟩ = some (.int .u32 s1) := cellA HI 0; have i1 : w1.cell? ⟨gI, 1, none⟩ = some (.slice S1 xs.length c1) := cellA HI 1; clear ha hb hg hl) | (refine wlBox ?_ 25 _ rfl (imA s1 S2 n2 c2) rfl ?_; exact rfl; intro gJ w2 hg hl ha hb; replace HX := Lib.hid (HX.out.below hb); replace HY := Lib.hid (HY.out.below hb); replace HB := keepB HB hb; replace HI := keepA HI hb; have HJ := Lib.hid ha; have i0 : w2.cell? ⟨gI, 0, none⟩ = some (.int .u32 s1) := cellA HI 0; have i1 : w2.cell? ⟨gI, 1, none⟩ = some (.slice S1 xs.length c1) := cellA HI 1; have j0 : w2.cell? ⟨gJ, 0, none⟩ = some (.int .u32 s1) := cellA HJ 0; have j1 : w2.cell? ⟨gJ, 1, none⟩ = some (.slice S2 n2 c2) := cellA HJ 1; clear ha hb hg hl))
    go_ret
    exact ⟨rfl, HB.out.1⟩
  subst q
  have HR : Hid (decide ((xs.drop 0).map SegM.v = (ys.drop 0).map SegM.v) = R) := Lib.hid (by rw [← hR]; exact decide_eq_decide.2 ⟨fun h => ⟨rfl, h⟩, fun h => h.2⟩)
  clear hR
  go_enter Tryd.func17, Tryd.ntmps17
  go_wp2_with (first | (refine wlBox ?_ 25 _ rfl (imA s1 S1 xs.length c1) rfl ?_; exact rfl; intro gI w1 hg hl ha hb; replace HX := Lib.hid (HX.out.below hb); replace HY := Lib.hid (HY.out.below hb); replace HB := keepB HB hb; have HI := Lib.hid ha; have i0 : w1.cell? ⟨gI, 0, none⟩ = some (.int .u32 s1) := cellA HI 0; have i1 : w1.cell? ⟨gI, 1, none⟩ = some (.slice S1 xs.length c1) := cellA HI 1; clear ha hb hg hl) | (refine wlBox ?_ 25 _ rfl (imA s1 S2 xs.length c2) rfl ?_; exact rfl; intro gJ w2 hg hl ha hb; replace HX := Lib.hid (HX.out.below hb); replace HY := Lib.hid (HY.out.below hb); replace HB := keepB HB hb; replace HI := keepA HI hb; have HJ := Lib.hid ha; have i0 : w2.cell? ⟨gI, 0, none⟩ = some (.int .u32 s1) := cellA HI 0; have i1 : w2.cell? ⟨gI, 1, none⟩ = some (.slice S1 xs.length c1) := cellA HI 1; have j0 : w2.cell? ⟨gJ, 0, none⟩ = some (.int .u32 s1) := cellA HJ 0; have j1 : w2.cell? ⟨gJ, 1, none⟩ = some (.slice S2 xs.length c2) := cellA HJ 1; clear ha hb hg hl))
  clear i0 i1 j0 j1
  go_loopw [5] (fun i wr => ∃ (k : Nat), k ≤ xs.length ∧ i = .int .i64 k ∧ Hid (decide ((xs.drop k).map SegM.v = (ys.drop k).map SegM.v) = R) ∧ Hid (RdSgG wr S1 xs) ∧ Hid (RdSgG wr S2 ys) ∧ Hid (wr.heap[gI]? = some (.cells (imA s1 S1 xs.length c1) 25 (0, 0))) ∧ Hid (wr.heap[gJ]? = some (.cells (imA s1 S2 xs.length c2) 25 (0, 0))) ∧ Hid (Below w.heap.size w wr ∧ w.heap.size ≤ wr.heap.size)) (fun i _ => xs.length - (intOf i).toNat)
  case atStart => exact ⟨0, Nat.zero_le _, by first | trivial | rfl, HR, HX, HY, HI, HJ, HB⟩
  case round =>
    clear HX HY HB HR HI HJ
    obtain ⟨k, hk, rfl, HR, HX, HY, HI, HJ, HB⟩ := hrel
    have i1 : wr.cell? ⟨gI, 1, none⟩ = some (.slice S1 xs.length c1) := cellA HI 1
    have j1 : wr.cell? ⟨gJ, 1, none⟩ = some (.slice S2 xs.length c2) := cellA HJ 1
    by_cases hlt : k < xs.length
    · have hlt2 : k < xs.length := by omega
      obtain ⟨x, hx⟩ : ∃ m, xs[k]? = some m := ⟨_, List.getElem?_eq_getElem hlt⟩
      obtain ⟨y, hy⟩ : ∃ m, ys[k]? = some m := ⟨_, List.getElem?_eq_getElem (by rw [HN.out]; exact hlt2)⟩
      obtain ⟨b1, o1, rfl, _, hc1⟩ := HX.out.1.2.2 (by omega)
      obtain ⟨b2, o2, rfl, _, hc2⟩ := HY.out.1.2.2 (by rw [HN.out]; omega)
      obtain ⟨_, mx, _, hrx⟩ := HX.out.2 x (List.mem_of_getElem? hx)
      obtain ⟨_, my, _, hry⟩ := HY.out.2 y (List.mem_of_getElem? hy)
      have HS : Hid ((fun w' => w'.cell? ⟨gI, 1, none⟩ = some (.slice (some ⟨b1, o1, none⟩) xs.length c1) ∧ w'.cell? ⟨gJ, 1, none⟩ = some (.slice (some ⟨b2, o2, none⟩) xs.length c2) ∧ w'.cell? ⟨b1, o1 + k * 2, none⟩ = some (.int .u32 x.at_) ∧ w'.cell? ⟨b1, o1 + k * 2 + 1, none⟩ = some (.slice x.D x.d.length x.c) ∧ w'.cell? ⟨b2, o2 + k * 2, none⟩ = some (.int .u32 y.at_) ∧ w'.cell? ⟨b2, o2 + k * 2 + 1, none⟩ = some (.slice y.D y.d.length y.c)) wr) := Lib.hid ⟨i1, j1, hc1 k (sA x) (sA_get hx) 0 _ rfl, hc1 k (sA x) (sA_get hx) 1 _ rfl, hc2 k (sA y) (sA_get hy) 0 _ rfl, hc2 k (sA y) (sA_get hy) 1 _ rfl⟩
      have hr := HR.out
      rw [drop_cons hx, drop_cons hy, List.map_cons, List.map_cons] at hr
      have HRX := Lib.hid (hrx.drew 1)
      have HRY := Lib.hid (hry.drew 1)
      replace mx : x.d.length ≤ 9223372036854775807 := mx
      replace my : y.d.length ≤ 9223372036854775807 := my
      have ex : x.v = y.v ↔ x.at_ = y.at_ ∧ x.d = y.d := (segV_iff x.v y.v).symm
      clear hc1 hc2 hx hy hrx hry HR
      by_cases qa : x.at_ = y.at_
      · obtain ⟨bd, hbd⟩ : ∃ b, decide (x.d = y.d) = b := ⟨_, rfl⟩
        have HBD := Lib.hid hbd
        have HRR := Lib.hid hr
        have HEX := Lib.hid ex
        clear hbd hr ex
        have hne : ((x.at_ : Int) != (y.at_ : Int)) = false := by rw [qa]; simp
        have HQA := Lib.hid qa
        clear qa
        go_wp2
        clear i1 j1
        replace HX := Lib.hid (HX.out.drew 1)
        replace HY := Lib.hid (HY.out.drew 1)
        replace HB := keepB1 HB
        replace HI := keepA1 HI
        replace HJ := keepA1 HJ
        replace HS : Hid ((fun w' => w'.cell? ⟨gI, 1, none⟩ = some (.slice (some ⟨b1, o1, none⟩) xs.length c1) ∧ w'.cell? ⟨gJ, 1, none⟩ = some (.slice (some ⟨b2, o2, none⟩) xs.length c2) ∧ w'.cell? ⟨b1, o1 + k * 2, none⟩ = some (.int .u32 x.at_) ∧ w'.cell? ⟨b1, o1 + k * 2 + 1, none⟩ = some (.slice x.D x.d.length x.c) ∧ w'.cell? ⟨b2, o2 + k * 2, none⟩ = some (.int .u32 y.at_) ∧ w'.cell? ⟨b2, o2 + k * 2 + 1, none⟩ = some (.slice y.D y.d.length y.c)) (wr.drewN 1)) := Lib.hid HS.out
        refine rgStart (S := (fun w' => w'.cell? ⟨gI, 1, none⟩ = some (.slice (some ⟨b1, o1, none⟩) xs.length c1) ∧ w'.cell? ⟨gJ, 1, none⟩ = some (.slice (some ⟨b2, o2, none⟩) xs.length c2) ∧ w'.cell? ⟨b1, o1 + k * 2, none⟩ = some (.int .u32 x.at_) ∧ w'.cell? ⟨b1, o1 + k * 2 + 1, none⟩ = some (.slice x.D x.d.length x.c) ∧ w'.cell? ⟨b2, o2 + k * 2, none⟩ = some (.int .u32 y.at_) ∧ w'.cell? ⟨b2, o2 + k * 2 + 1, none⟩ = some (.slice y.D y.d.length y.c))) (n := 29) #[false, false, false, false, false, false, false, false, false, false, false, false, false, false, false, false, false, false, false, false, false, false, false, false, false, false, false, false, false] (by kernel_rfl) rfl rfl HS.out (fun hHeld => ?_)
        refine rgTake (i := 0) (N := some 34) (oi := { dst := some 34, op := Op.fieldAddr 25 (Operand.tmp 2) 1, type := 0, pos := "same.go:303", after := #[], guard := none }) (v := ?_) #[true, false, false, false, false, false, false, false, false, false, false, false, false, false, false, false, false, false, false, false, false, false, false, false, false, false, false, false, false] rfl rfl (by kernel_rfl) (fun _ _ _ h => h) (Or.inl ⟨by rfl, ?_⟩) hHeld ?_
        rotate_left
        · intro w' hSw; (try dsimp only at hSw); (obtain ⟨k1, k2, k3, k4, k5, k6⟩ := hSw); go_simp; try with_reducible rfl
        simp only [Act.put, List.setIfInBounds_toArray, List.set_cons_zero, List.set_cons_succ]
        refine rgTake (i := 1) (N := some 35) (oi := { dst := some 35, op := Op.load 23 (Operand.tmp 34), type := 23, pos := "same.go:303", after := #[{ on := 0, ground := Ground.data }], guard := none }) (v := ?_) #[true, true, false, false, false, false, false, false, false, false, false, false, false, false, false, false, false, false, false, false, false, false, false, false, false, false, false, false, false] rfl rfl (by kernel_rfl) (fun _ _ _ h => h) (Or.inl ⟨by rfl, ?_⟩) hHeld ?_
        rotate_left
        · intro w' hSw; (try dsimp only at hSw); (obtain ⟨k1, k2, k3, k4, k5, k6⟩ := hSw); go_simp; try with_reducible rfl
        simp only [Act.put, List.setIfInBounds_toArray, List.set_cons_zero, List.set_cons_succ]
        refine rgTake (i := 2) (N := some 36) (oi := { dst := some 36, op := Op.move (Operand.tmp 5), type := 3, pos := "same.go:303", after := #[], guard := none }) (v := ?_) #[true, true, true, false, false, false, false, false, false, false, false, false, false, false, false, false, false, false, false, false, false, false, false, false, false, false, false, false, false] rfl rfl (by kernel_rfl) (fun _ _ _ h => h) (Or.inl ⟨by rfl, ?_⟩) hHeld ?_
        rotate_left
        · intro w' hSw; (try dsimp only at hSw); (obtain ⟨k1, k2, k3, k4, k5, k6⟩ := hSw); go_simp; try with_reducible rfl
        simp only [Act.put, List.setIfInBounds_toArray, List.set_cons_zero, List.set_cons_succ]
        refine rgTake (i := 3) (N := some 37) (oi := { dst := some 37, op := Op.indexAddr 23 (Operand.tmp 35) (Operand.tmp 36), type := 0, pos := "same.go:303", after := #[{ on := 1, ground := Ground.data }, { on := 2, ground := Ground.data }], guard := none }) (v := _) #[true, true, true, true, false, false, false, false, false, false, false, false, false, false, false, false, false, false, false, false, false, false, false, false, false, false, false, false, false] rfl rfl (by kernel_rfl) (fun _ _ _ h => h) (yieldsIdx (by rfl) 23 _ _ rfl 51 2 Tryd.underlying23 sizeSeg b1 o1 xs.length c1 k rfl rfl hlt) hHeld ?_
        simp only [Act.put, List.setIfInBounds_toArray, List.set_cons_zero, List.set_cons_succ]
        refine rgTake (i := 4) (N := some 38) (oi := { dst := some 38, op := Op.fieldAddr 51 (Operand.tmp 37) 0, type := 0, pos := "same.go:303", after := #[{ on := 3, ground := Ground.data }], guard := none }) (v := ?_) #[true, true, true, true, true, false, false, false, false, false, false, false, false, false, false, false, false, false, false, false, false, false, false, false, false, false, false, false, false] rfl rfl (by kernel_rfl) (fun _ _ _ h => h) (Or.inl ⟨by rfl, ?_⟩) hHeld ?_
        rotate_left
        · intro w' hSw; (try dsimp only at hSw); (obtain ⟨k1, k2, k3, k4, k5, k6⟩ := hSw); go_simp; try with_reducible rfl
        simp only [Act.put, List.setIfInBounds_toArray, List.set_cons_zero, List.set_cons_succ]
        refine rgTake (i := 5) (N := some 39) (oi := { dst := some 39, op := Op.load 22 (Operand.tmp 38), type := 22, pos := "same.go:303", after := #[{ on := 4, ground := Ground.data }], guard := none }) (v := ?_) #[true, true, true, true, true, true, false, false, false, false, false, false, false, false, false, false, false, false, false, false, false, false, false, false, false, false, false, false, false] rfl rfl (by kernel_rfl) (fun _ _ _ h => h) (Or.inl ⟨by rfl, ?_⟩) hHeld ?_
        rotate_left
        · intro w' hSw; (try dsimp only at hSw); (obtain ⟨k1, k2, k3, k4, k5, k6⟩ := hSw); go_simp; try with_reducible rfl
        simp only [Act.put, List.setIfInBounds_toArray, List.set_cons_zero, List.set_cons_succ]
        refine rgTake (i := 6) (N := some 40) (oi := { dst := some 40, op := Op.fieldAddr 25 (Operand.tmp 3) 1, type := 0, pos := "same.go:303", after := #[], guard := none }) (v := ?_) #[true, true, true, true, true, true, true, false, false, false, false, false, false, false, false, false, false, false, false, false, false, false, false, false, false, false, false, false, false] rfl rfl (by kernel_rfl) (fun _ _ _ h => h) (Or.inl ⟨by rfl, ?_⟩) hHeld ?_
        rotate_left
        · intro w' hSw; (try dsimp only at hSw); (obtain ⟨k1, k2, k3, k4, k5, k6⟩ := hSw); go_simp; try with_reducible rfl
        simp only [Act.put, List.setIfInBounds_toArray, List.set_cons_zero, List.set_cons_succ]
        refine rgTake (i := 7) (N := some 41) (oi := { dst := some 41, op := Op.load 23 (Operand.tmp 40), type := 23, pos := "same.go:303", after := #[{ on := 6, ground := Ground.data }], guard := none }) (v := ?_) #[true, true, true, true, true, true, true, true, false, false, false, false, false, false, false, false, false, false, false, false, false, false, false, false, false, false, false, false, false] rfl rfl (by kernel_rfl) (fun _ _ _ h => h) (Or.inl ⟨by rfl, ?_⟩) hHeld ?_
        rotate_left
        · intro w' hSw; (try dsimp only at hSw); (obtain ⟨k1, k2, k3, k4, k5, k6⟩ := hSw); go_simp; try with_reducible rfl
        simp only [Act.put, List.setIfInBounds_toArray, List.set_cons_zero, List.set_cons_succ]
        refine rgTake (i := 8) (N := some 42) (oi := { dst := some 42, op := Op.move (Operand.tmp 5), type := 3, pos := "same.go:303", after := #[], guard := none }) (v := ?_) #[true, true, true, true, true, true, true, true, true, false, false, false, false, false, false, false, false, false, false, false, false, false, false, false, false, false, false, false, false] rfl rfl (by kernel_rfl) (fun _ _ _ h => h) (Or.inl ⟨by rfl, ?_⟩) hHeld ?_
        rotate_left
        · intro w' hSw; (try dsimp only at hSw); (obtain ⟨k1, k2, k3, k4, k5, k6⟩ := hSw); go_simp; try with_reducible rfl
        simp only [Act.put, List.setIfInBounds_toArray, List.set_cons_zero, List.set_cons_succ]
        refine rgTake (i := 9) (N := some 43) (oi := { dst := some 43, op := Op.indexAddr 23 (Operand.tmp 41) (Operand.tmp 42), type := 0, pos := "same.go:303", after := #[{ on := 7, ground := Ground.data }, { on := 8, ground := Ground.data }], guard := none }) (v := _) #[true, true, true, true, true, true, true, true, true, true, false, false, false, false, false, false, false, false, false, false, false, false, false, false, false, false, false, false, false] rfl rfl (by kernel_rfl) (fun _ _ _ h => h) (yieldsIdx (by rfl) 23 _ _ rfl 51 2 Tryd.underlying23 sizeSeg b2 o2 xs.length c2 k rfl rfl hlt2) hHeld ?_
        simp only [Act.put, List.setIfInBounds_toArray, List.set_cons_zero, List.set_cons_succ]
        refine rgTake (i := 10) (N := some 44) (oi := { dst := some 44, op := Op.fieldAddr 51 (Operand.tmp 43) 0, type := 0, pos := "same.go:303", after := #[{ on := 9, ground := Ground.data }], guard := none }) (v := ?_) #[true, true, true, true, true, true, true, true, true, true, true, false, false, false, false, false, false, false, false, false, false, false, false, false, false, false, false, false, false] rfl rfl (by kernel_rfl) (fun _ _ _ h => h) (Or.inl ⟨by rfl, ?_⟩) hHeld ?_
        rotate_left
        · intro w' hSw; (try dsimp only at hSw); (obtain ⟨k1, k2, k3, k4, k5, k6⟩ := hSw); go_simp; try with_reducible rfl
        simp only [Act.put, List.setIfInBounds_toArray, List.set_cons_zero, List.set_cons_succ]
        refine rgTake (i := 11) (N := some 45) (oi := { dst := some 45, op := Op.load 22 (Operand.tmp 44), type := 22, pos := "same.go:303", after := #[{ on := 10, ground := Ground.data }], guard := none }) (v := ?_) #[true, true, true, true, true, true, true, true, true, true, true, true, false, false, false, false, false, false, false, false, false, false, false, false, false, false, false, false, false] rfl rfl (by kernel_rfl) (fun _ _ _ h => h) (Or.inl ⟨by rfl, ?_⟩) hHeld ?_
        rotate_left
        · intro w' hSw; (try dsimp only at hSw); (obtain ⟨k1, k2, k3, k4, k5, k6⟩ := hSw); go_simp; try with_reducible rfl
        simp only [Act.put, List.setIfInBounds_toArray, List.set_cons_zero, List.set_cons_succ]
        refine rgTake (i := 12) (N := some 46) (oi := { dst := some 46, op := Op.binOp BinOp.neq 22 (Operand.tmp 39) (Operand.tmp 45) 22, type := 4, pos := "same.go:303", after := #[{ on := 5, ground := Ground.data }, { on := 11, ground := Ground.data }], guard := none }) (v := ?_) #[true, true, true, true, true, true, true, true, true, true, true, true, true, false, false, false, false, false, false, false, false, false, false, false, false, false, false, false, false] rfl rfl (by kernel_rfl) (fun _ _ _ h => h) (Or.inl ⟨by rfl, ?_⟩) hHeld ?_
        rotate_left
        · intro w' hSw; (try dsimp only at hSw); (obtain ⟨k1, k2, k3, k4, k5, k6⟩ := hSw); go_simp; try with_reducible rfl
        simp only [Act.put, List.setIfInBounds_toArray, List.set_cons_zero, List.set_cons_succ]
        refine rgTake (i := 13) (N := some 47) (oi := { dst := some 47, op := Op.move (Operand.tmp 46), type := 4, pos := "same.go:303", after := #[{ on := 12, ground := Ground.data }], guard := none }) (v := ?_) #[true, true, true, true, true, true, true, true, true, true, true, true, true, true, false, false, false, false, false, false, false, false, false, false, false, false, false, false, false] rfl rfl (by kernel_rfl) (fun _ _ _ h => h) (Or.inl ⟨by rfl, ?_⟩) hHeld ?_
        rotate_left
        · intro w' hSw; (try dsimp only at hSw); (obtain ⟨k1, k2, k3, k4, k5, k6⟩ := hSw); go_simp; try with_reducible rfl
        simp only [Act.put, List.setIfInBounds_toArray, List.set_cons_zero, List.set_cons_succ]
        refine rgTake (i := 14) (N := some 48) (oi := { dst := some 48, op := Op.fieldAddr 25 (Operand.tmp 2) 1, type := 0, pos := "same.go:303", after := #[{ on := 13, ground := Ground.guard }], guard := some (13, false) }) (v := ?_) #[true, true, true, true, true, true, true, true, true, true, true, true, true, true, true, false, false, false, false, false, false, false, false, false, false, false, false, false, false] rfl rfl (by kernel_rfl) (fun _ _ _ h => h) (Or.inl ⟨by rfl, ?_⟩) hHeld ?_
        rotate_left
        · intro w' hSw; (try dsimp only at hSw); (obtain ⟨k1, k2, k3, k4, k5, k6⟩ := hSw); go_simp; try with_reducible rfl
        simp only [Act.put, List.setIfInBounds_toArray, List.set_cons_zero, List.set_cons_succ]
        refine rgTake (i := 15) (N := some 49) (oi := { dst := some 49, op := Op.load 23 (Operand.tmp 48), type := 23, pos := "same.go:303", after := #[{ on := 14, ground := Ground.data }, { on := 13, ground := Ground.guard }], guard := some (13, false) }) (v := ?_) #[true, true, true, true, true, true, true, true, true, true, true, true, true, true, true, true, false, false, false, false, false, false, false, false, false, false, false, false, false] rfl rfl (by kernel_rfl) (fun _ _ _ h => h) (Or.inl ⟨by rfl, ?_⟩) hHeld ?_
        rotate_left
        · intro w' hSw; (try dsimp only at hSw); (obtain ⟨k1, k2, k3, k4, k5, k6⟩ := hSw); go_simp; try with_reducible rfl
        simp only [Act.put, List.setIfInBounds_toArray, List.set_cons_zero, List.set_cons_succ]
        refine rgTake (i := 16) (N := some 50) (oi := { dst := some 50, op := Op.move (Operand.tmp 5), type := 3, pos := "same.go:303", after := #[{ on := 13, ground := Ground.guard }], guard := some (13, false) }) (v := ?_) #[true, true, true, true, true, true, true, true, true, true, true, true, true, true, true, true, true, false, false, false, false, false, false, false, false, false, false, false, false] rfl rfl (by kernel_rfl) (fun _ _ _ h => h) (Or.inl ⟨by rfl, ?_⟩) hHeld ?_
        rotate_left
        · intro w' hSw; (try dsimp only at hSw); (obtain ⟨k1, k2, k3, k4, k5, k6⟩ := hSw); go_simp; try with_reducible rfl
        simp only [Act.put, List.setIfInBounds_toArray, List.set_cons_zero, List.set_cons_succ]
        refine rgTake (i := 17) (N := some 51) (oi := { dst := some 51, op := Op.indexAddr 23 (Operand.tmp 49) (Operand.tmp 50), type := 0, pos := "same.go:303", after := #[{ on := 15, ground := Ground.data }, { on := 16, ground := Ground.data }, { on := 13, ground := Ground.guard }], guard := some (13, false) }) (v := _) #[true, true, true, true, true, true, true, true, true, true, true, true, true, true, true, true, true, true, false, false, false, false, false, false, false, false, false, false, false] rfl rfl (by kernel_rfl) (fun _ _ _ h => h) (yieldsIdx (by rfl) 23 _ _ rfl 51 2 Tryd.underlying23 sizeSeg b1 o1 xs.length c1 k rfl rfl hlt) hHeld ?_
        simp only [Act.put, List.setIfInBounds_toArray, List.set_cons_zero, List.set_cons_succ]
        refine rgTake (i := 18) (N := some 52) (oi := { dst := some 52, op := Op.fieldAddr 51 (Operand.tmp 51) 1, type := 0, pos := "same.go:303", after := #[{ on := 17, ground := Ground.data }, { on := 13, ground := Ground.guard }], guard := some (13, false) }) (v := ?_) #[true, true, true, true, true, true, true, true, true, true, true, true, true, true, true, true, true, true, true, false, false, false, false, false, false, false, false, false, false] rfl rfl (by kernel_rfl) (fun _ _ _ h => h) (Or.inl ⟨by rfl, ?_⟩) hHeld ?_
        rotate_left
        · intro w' hSw; (try dsimp only at hSw); (obtain ⟨k1, k2, k3, k4, k5, k6⟩ := hSw); go_simp; try with_reducible rfl
        simp only [Act.put, List.setIfInBounds_toArray, List.set_cons_zero, List.set_cons_succ]
        refine rgTake (i := 19) (N := some 53) (oi := { dst := some 53, op := Op.load 26 (Operand.tmp 52), type := 26, pos := "same.go:303", after := #[{ on := 18, ground := Ground.data }, { on := 13, ground := Ground.guard }], guard := some (13, false) }) (v := ?_) #[true, true, true, true, true, true, true, true, true, true, true, true, true, true, true, true, true, true, true, true, false, false, false, false, false, false, false, false, false] rfl rfl (by kernel_rfl) (fun _ _ _ h => h) (Or.inl ⟨by rfl, ?_⟩) hHeld ?_
        rotate_left
        · intro w' hSw; (try dsimp only at hSw); (obtain ⟨k1, k2, k3, k4, k5, k6⟩ := hSw); go_simp; try with_reducible rfl
        simp only [Act.put, List.setIfInBounds_toArray, List.set_cons_zero, List.set_cons_succ]
        refine rgTake (i := 20) (N := some 54) (oi := { dst := some 54, op := Op.fieldAddr 25 (Operand.tmp 3) 1, type := 0, pos := "same.go:303", after := #[{ on := 13, ground := Ground.guard }], guard := some (13, false) }) (v := ?_) #[true, true, true, true, true, true, true, true, true, true, true, true, true, true, true, true, true, true, true, true, true, false, false, false, false, false, false, false, false] rfl rfl (by kernel_rfl) (fun _ _ _ h => h) (Or.inl ⟨by rfl, ?_⟩) hHeld ?_
        rotate_left
        · intro w' hSw; (try dsimp only at hSw); (obtain ⟨k1, k2, k3, k4, k5, k6⟩ := hSw); go_simp; try with_reducible rfl
        simp only [Act.put, List.setIfInBounds_toArray, List.set_cons_zero, List.set_cons_succ]
        refine rgTake (i := 21) (N := some 55) (oi := { dst := some 55, op := Op.load 23 (Operand.tmp 54), type := 23, pos := "same.go:303", after := #[{ on := 20, ground := Ground.data }, { on := 13, ground := Ground.guard }], guard := some (13, false) }) (v := ?_) #[true, true, true, true, true, true, true, true, true, true, true, true, true, true, true, true, true, true, true, true, true, true, false, false, false, false, false, false, false] rfl rfl (by kernel_rfl) (fun _ _ _ h => h) (Or.inl ⟨by rfl, ?_⟩) hHeld ?_
        rotate_left
        · intro w' hSw; (try dsimp only at hSw); (obtain ⟨k1, k2, k3, k4, k5, k6⟩ := hSw); go_simp; try with_reducible rfl
        simp only [Act.put, List.setIfInBounds_toArray, List.set_cons_zero, List.set_cons_succ]
        refine rgTake (i := 22) (N := some 56) (oi := { dst := some 56, op := Op.move (Operand.tmp 5), type := 3, pos := "same.go:303", after := #[{ on := 13, ground := Ground.guard }], guard := some (13, false) }) (v := ?_) #[true, true, true, true, true, true, true, true, true, true, true, true, true, true, true, true, true, true, true, true, true, true, true, false, false, false, false, false, false] rfl rfl (by kernel_rfl) (fun _ _ _ h => h) (Or.inl ⟨by rfl, ?_⟩) hHeld ?_
        rotate_left
        · intro w' hSw; (try dsimp only at hSw); (obtain ⟨k1, k2, k3, k4, k5, k6⟩ := hSw); go_simp; try with_reducible rfl
        simp only [Act.put, List.setIfInBounds_toArray, List.set_cons_zero, List.set_cons_succ]
        refine rgTake (i := 23) (N := some 57) (oi := { dst := some 57, op := Op.indexAddr 23 (Operand.tmp 55) (Operand.tmp 56), type := 0, pos := "same.go:303", after := #[{ on := 21, ground := Ground.data }, { on := 22, ground := Ground.data }, { on := 13, ground := Ground.guard }], guard := some (13, false) }) (v := _) #[true, true, true, true, true, true, true, true, true, true, true, true, true, true, true, true, true, true, true, true, true, true, true, true, false, false, false, false, false] rfl rfl (by kernel_rfl) (fun _ _ _ h => h) (yieldsIdx (by rfl) 23 _ _ rfl 51 2 Tryd.underlying23 sizeSeg b2 o2 xs.length c2 k rfl rfl hlt2) hHeld ?_
        simp only [Act.put, List.setIfInBounds_toArray, List.set_cons_zero, List.set_cons_succ]
        refine rgTake (i := 24) (N := some 58) (oi := { dst := some 58, op := Op.fieldAddr 51 (Operand.tmp 57) 1, type := 0, pos := "same.go:303", after := #[{ on := 23, ground := Ground.data }, { on := 13, ground := Ground.guard }], guard := some (13, false) }) (v := ?_) #[true, true, true, true, true, true, true, true, true, true, true, true, true, true, true, true, true, true, true, true, true, true, true, true, true, false, false, false, false] rfl rfl (by kernel_rfl) (fun _ _ _ h => h) (Or.inl ⟨by rfl, ?_⟩) hHeld ?_
        rotate_left
        · intro w' hSw; (try dsimp only at hSw); (obtain ⟨k1, k2, k3, k4, k5, k6⟩ := hSw); go_simp; try with_reducible rfl
        simp only [Act.put, List.setIfInBounds_toArray, List.set_cons_zero, List.set_cons_succ]
        refine rgTake (i := 25) (N := some 59) (oi := { dst := some 59, op := Op.load 26 (Operand.tmp 58), type := 26, pos := "same.go:303", after := #[{ on := 24, ground := Ground.data }, { on := 13, ground := Ground.guard }], guard := some (13, false) }) (v := ?_) #[true, true, true, true, true, true, true, true, true, true, true, true, true, true, true, true, true, true, true, true, true, true, true, true, true, true, false, false, false] rfl rfl (by kernel_rfl) (fun _ _ _ h => h) (Or.inl ⟨by rfl, ?_⟩) hHeld ?_
        rotate_left
        · intro w' hSw; (try dsimp only at hSw); (obtain ⟨k1, k2, k3, k4, k5, k6⟩ := hSw); go_simp; try with_reducible rfl
        simp only [Act.put, List.setIfInBounds_toArray, List.set_cons_zero, List.set_cons_succ]
        refine rgCall (i := 26) (N := some 60) (oi := { dst := some 60, op := Op.call { callee := Callee.value (Operand.func 22), args := #[Operand.tmp 53, Operand.tmp 59], argTypes := #[26, 26] }, type := 4, pos := "same.go:303", after := #[{ on := 19, ground := Ground.data }, { on := 25, ground := Ground.data }, { on := 13, ground := Ground.chain }, { on := 13, ground := Ground.guard }], guard := some (13, false) }) #[true, true, true, true, true, true, true, true, true, true, true, true, true, true, true, true, true, true, true, true, true, true, true, true, true, true, true, false, false] rfl rfl (by kernel_rfl) (fun K hK => ?_)
        go_simp
        (go_at_call 22; refine (bytesS_any x.D y.D x.c y.c x.d y.d _ HRX.out HRY.out mx my).mono ?_; rw [HBD.out]; rintro e w3 ⟨rfl, hb⟩; replace HX := Lib.hid (HX.out.below hb); replace HY := Lib.hid (HY.out.below hb); replace HB := keepB HB hb; replace HI := keepA HI hb; replace HJ := keepA HJ hb; replace HS : Hid ((fun w' => w'.cell? ⟨gI, 1, none⟩ = some (.slice (some ⟨b1, o1, none⟩) xs.length c1) ∧ w'.cell? ⟨gJ, 1, none⟩ = some (.slice (some ⟨b2, o2, none⟩) xs.length c2) ∧ w'.cell? ⟨b1, o1 + k * 2, none⟩ = some (.int .u32 x.at_) ∧ w'.cell? ⟨b1, o1 + k * 2 + 1, none⟩ = some (.slice x.D x.d.length x.c) ∧ w'.cell? ⟨b2, o2 + k * 2, none⟩ = some (.int .u32 y.at_) ∧ w'.cell? ⟨b2, o2 + k * 2 + 1, none⟩ = some (.slice y.D y.d.length y.c)) w3) := Lib.hid ⟨cell_below HS.out.1 hb, cell_below HS.out.2.1 hb, cell_below HS.out.2.2.1 hb, cell_below HS.out.2.2.2.1 hb, cell_below HS.out.2.2.2.2.1 hb, cell_below HS.out.2.2.2.2.2 hb⟩; clear hb HRX HRY)
        refine hK.out _ _ HS.out (fun hHeld => ?_)
        (try simp only [Act.put, List.setIfInBounds_toArray, List.set_cons_zero, List.set_cons_succ])
        clear hK K
        refine rgTake (i := 27) (N := some 61) (oi := { dst := some 61, op := Op.unOp UnOp.not 4 (Operand.tmp 60), type := 4, pos := "same.go:303", after := #[{ on := 26, ground := Ground.data }, { on := 13, ground := Ground.guard }], guard := some (13, false) }) (v := ?_) #[true, true, true, true, true, true, true, true, true, true, true, true, true, true, true, true, true, true, true, true, true, true, true, true, true, true, true, true, false] rfl rfl (by kernel_rfl) (fun _ _ _ h => h) (Or.inl ⟨by rfl, ?_⟩) hHeld ?_
        rotate_left
        · intro w' hSw; (try dsimp only at hSw); (obtain ⟨k1, k2, k3, k4, k5, k6⟩ := hSw); go_simp; try with_reducible rfl
        simp only [Act.put, List.setIfInBounds_toArray, List.set_cons_zero, List.set_cons_succ]
        refine rgTake (i := 28) (N := some 62) (oi := { dst := some 62, op := Op.pick (Operand.tmp 47) (Operand.const (Value.bool true)) (Operand.tmp 61), type := 4, pos := "same.go:303", after := #[{ on := 13, ground := Ground.data }, { on := 27, ground := Ground.data }], guard := none }) (v := ?_) #[true, true, true, true, true, true, true, true, true, true, true, true, true, true, true, true, true, true, true, true, true, true, true, true, true, true, true, true, true] rfl rfl (by kernel_rfl) (fun _ _ _ h => h) (Or.inl ⟨by rfl, ?_⟩) hHeld ?_
        rotate_left
        · intro w' hSw; (try dsimp only at hSw); (obtain ⟨k1, k2, k3, k4, k5, k6⟩ := hSw); go_simp; try with_reducible rfl
        simp only [Act.put, List.setIfInBounds_toArray, List.set_cons_zero, List.set_cons_succ]
        refine rgDone (by kernel_rfl) ?_ _
        cases bd with
        | true =>
          have HR : Hid (decide ((xs.drop (k + 1)).map SegM.v = (ys.drop (k + 1)).map SegM.v) = R) := Lib.hid (by rw [← HRR.out]; exact decide_eq_decide.2 ⟨fun h => by rw [HEX.out.2 ⟨HQA.out, of_decide_eq_true HBD.out⟩, h], fun h => (List.cons.inj h).2⟩)
          clear HRR HEX HQA HBD
          go_wp2
          go_roundw
          case rel => exact ⟨k + 1, by omega, by first | trivial | go_num, HR, HX, HY, HI, HJ, HB⟩
          case measure => simp [intOf]; omega
        | false =>
          have hr' : R = false := by rw [← HRR.out]; exact decide_eq_false (fun h => absurd ((HEX.out.1 (List.cons.inj h).1).2) (of_decide_eq_false HBD.out))
          subst hr'
          go_wp2
          go_ret
          exact ⟨rfl, HB.out.1⟩
      · have hr' : R = false := by rw [← hr]; exact decide_eq_false (fun h => qa (ex.1 (List.cons.inj h).1).1)
        subst hr'
        have hne : ((x.at_ : Int) != (y.at_ : Int)) = true := bne_iff_ne.2 (by omega)
        obtain ⟨_, _, k3, k4, k5, k6⟩ := HS.out
        clear hr ex HS
        go_wp2
        go_region
        replace HB := keepB1 HB
        go_wp2
        go_ret
        exact ⟨rfl, HB.out.1⟩
    · obtain rfl : k = xs.length := by omega
      have hr := HR.out
      have hr' : R = true := by rw [← hr]; exact decide_eq_true (by rw [List.drop_eq_nil_of_le (Nat.le_refl _), List.drop_eq_nil_of_le (by rw [HN.out]; omega)])
      subst hr'
      clear hr HR
      go_wp2
      go_ret
      exact ⟨rfl, HB.out.1⟩
end Go.Proofs.YtnigkecpiolgeaaDoor.My
/- Walk: may an image be: the reference's. -/
set_option linter.unusedSimpArgs false
set_option linter.unusedVariables false
namespace Go.Proofs.YtnigkecpiolgeaaDoor.My
open Go.RowKit
set_option maxRecDepth 100000 in
set_option maxHeartbeats 1000000 in
theorem rright_any (st c : Nat) (S : Option Addr) (ms : List SegM) (w : World) (hx : RdSg w S ms) (hmx : ms.length ≤ 9223372036854775807) : Calls Tryd.prog 23 #[.agg (imA st S ms.length c)] w fun e w' => e = .returned (.int .i64 (rightV (ms.map SegM.v) : Nat)) ∧ Below w.heap.size w w' := by
  have HB := startB w
  have HX := Lib.hid hx
  clear hx
  obtain ⟨R, hR⟩ : ∃ R, rightV (ms.map SegM.v) = R := ⟨_, rfl⟩
  rw [hR]
  have HR := Lib.hid hR
  clear hR
  go_enter Tryd.func23, Tryd.ntmps23
  by_cases h64 : 64 < ms.length
  · have hR' : R = 4 := by rw [← HR.out]; unfold rightV; rw [if_pos (by simpa using h64)]
    subst hR'
    go_wp2_with (refine wlBox ?_ 25 _ rfl (imA st S ms.length c) rfl ?_; exact rfl; intro gI w1 hg hl ha hb; replace HB := keepB HB hb; have HI := Lib.hid ha; have i1 : w1.cell? ⟨gI, 1, none⟩ = some (.slice S ms.length c) := cellA HI 1; clear ha hb hg hl)
    go_ret
    exact ⟨rfl, HB.out.1⟩
  · have HR2 : Hid (rightR ((ms.drop 0).map SegM.v) 0 = R) := Lib.hid (by have := HR.out; unfold rightV at this; rwa [if_neg (by simpa using h64)] at this)
    clear HR
    go_wp2_with (refine wlBox ?_ 25 _ rfl (imA st S ms.length c) rfl ?_; exact rfl; intro gI w1 hg hl ha hb; replace HB := keepB HB hb; have HI := Lib.hid ha; have i1 : w1.cell? ⟨gI, 1, none⟩ = some (.slice S ms.length c) := cellA HI 1; clear ha hb hg hl)
    clear i1
    go_loopw [3, 4] (fun l i wr => ∃ (k L : Nat), k ≤ ms.length ∧ i = .int .i64 k ∧ l = .int .i64 L ∧ L ≤ 16384 ∧ Hid (rightR ((ms.drop k).map SegM.v) L = R) ∧ Hid (wr.heap[gI]? = some (.cells (imA st S ms.length c) 25 (0, 0))) ∧ Hid (Below w.heap.size w wr ∧ w.heap.size ≤ wr.heap.size)) (fun _ i _ => ms.length - (intOf i).toNat)
    case atStart => exact ⟨0, 0, Nat.zero_le _, by first | trivial | rfl, by first | trivial | rfl, Nat.zero_le _, HR2, HI, HB⟩
    case round =>
      clear HB HR2 HI
      obtain ⟨k, L, hk, rfl, rfl, hL, HR, HI, HB⟩ := hrel
      have i1 : wr.cell? ⟨gI, 1, none⟩ = some (.slice S ms.length c) := cellA HI 1
      by_cases hlt : k < ms.length
      · obtain ⟨m, hm⟩ : ∃ m, ms[k]? = some m := ⟨_, List.getElem?_eq_getElem hlt⟩
        have HXW := Lib.hid (HX.out.below HB.out.1)
        obtain ⟨b, off, rfl, _, hcc⟩ := HXW.out.1.2.2 (by omega)
        obtain ⟨a1, a2, _⟩ := HX.out.2 m (List.mem_of_getElem? hm)
        have f0 : wr.cell? ⟨b, off + k * 2, none⟩ = some (.int .u32 m.at_) := hcc k (sA m) (sA_get hm) 0 _ rfl
        have f1 : wr.cell? ⟨b, off + k * 2 + 1, none⟩ = some (.slice m.D m.d.length m.c) := hcc k (sA m) (sA_get hm) 1 _ rfl
        have hr := HR.out
        rw [drop_cons hm, List.map_cons, rightR_cons] at hr
        obtain ⟨at0, hat0⟩ : ∃ a, m.at_ = a := ⟨_, rfl⟩
        obtain ⟨n0, hn0⟩ : ∃ n, m.d.length = n := ⟨_, rfl⟩
        rw [hat0] at f0 hr a1
        rw [hn0] at f1 hr a2
        clear hcc HR HXW hat0 hn0 hm
        by_cases d0 : n0 = 0
        · rw [if_pos d0] at hr
          subst hr
          subst d0
          go_wp2
          go_region
          replace HB := keepB1 HB
          replace HI := keepA1 HI
          go_wp2
          go_ret
          exact ⟨rfl, HB.out.1⟩
        · rw [if_neg d0] at hr
          have d0' : ((n0 : Int) == 0) = false := beq_eq_false_iff_ne.2 (by omega)
          by_cases d1 : 16384 < at0 + n0
          · rw [if_pos d1] at hr
            subst hr
            have g1 : decide (16384 < at0 + n0) = true := decide_eq_true d1
            have g1' : (16384 : Int) < (at0 : Int) + (n0 : Int) := by omega
            by_cases d2 : 16384 < n0
            · have g2 : (16384 : Int) < (n0 : Int) := by omega
              go_wp2
              go_region
              replace HB := keepB1 HB
              replace HI := keepA1 HI
              go_wp2
              go_ret
              exact ⟨rfl, HB.out.1⟩
            · go_wp2
              go_region
              replace HB := keepB1 HB
              replace HI := keepA1 HI
              go_wp2
              go_ret
              exact ⟨rfl, HB.out.1⟩
          · rw [if_neg d1] at hr
            by_cases d2 : at0 < L
            · rw [if_pos d2] at hr
              subst hr
              go_wp2
              go_region
              replace HB := keepB1 HB
              replace HI := keepA1 HI
              go_wp2
              go_ret
              exact ⟨rfl, HB.out.1⟩
            · rw [if_neg d2] at hr
              have HR := Lib.hid hr
              clear hr
              go_wp2
              go_region
              replace HB := keepB1 HB
              replace HI := keepA1 HI
              go_wp2
              go_roundw
              case rel => exact ⟨k + 1, at0 + n0, by omega, by first | trivial | go_num, by first | trivial | go_num, by omega, HR, HI, HB⟩
              case measure => simp [intOf]; omega
      · obtain rfl : k = ms.length := by omega
        have hr := HR.out
        rw [List.drop_eq_nil_of_le (Nat.le_refl _), List.map_nil, rightR] at hr
        subst hr
        go_wp2
        go_ret
        exact ⟨rfl, HB.out.1⟩
end Go.Proofs.YtnigkecpiolgeaaDoor.My
/- Walk: an image as lines: the reference's. -/
set_option linter.unusedVariables false
set_option linter.unusedSimpArgs false
namespace Go.Proofs.YtnigkecpiolgeaaDoor.My
open Go.RowKit
section
variable {P : Program} {ops : Array Oper} {o : Oper} {a : Act} {w : World} {Q : Exit → Act → World → Prop} {S : World → Prop} {rest : List Oper}
theorem catL (hw : Region.wanted o (yielded ops a.tmps) = true) (t : TypeId) (x y : Operand) (u : TypeId) (ho : o.op = .binOp .add t x y u) (l r : List UInt8) (hx : a.eval x = .string (bs l)) (hy : a.eval y = .string (bs r)) (h : l.length + r.length ≤ 9223372036854775807) (q : List UInt8) (hq : l ++ r = q)
    (hk : wpList P ops Q rest (a.put o.dst (.string (bs q))) w) : wpList P ops Q (o :: rest) a w :=
  strAdd hw t x y u ho (bs l) (bs r) (bs q) hx hy (by rw [bs_size, bs_size]; exact h) (by rw [bs_add, hq]) hk
theorem yieldsCat (hw : Region.wanted o (yielded ops a.tmps) = true) (t : TypeId) (x y : Operand) (u : TypeId) (ho : o.op = .binOp .add t x y u) (l r : List UInt8) (hx : a.eval x = .string (bs l)) (hy : a.eval y = .string (bs r)) (h : l.length + r.length ≤ 9223372036854775807) (q : List UInt8) (hq : l ++ r = q) : YieldsIf P ops S o (.string (bs q)) a :=
  .inl ⟨hw, fun w _ => by
    subst hq
    unfold execOp
    have hr := run_string_add_sum (P := P) w (bs l) (bs r) (by rw [bs_size, bs_size]; exact h)
    rw [bs_add] at hr
    simp only [ho, hx, hy, eqGuard, ite_self, Sem.run_bind, Sem.run_pure, Result.andThen_ok, binOp_string_add, hr]⟩
theorem ext_bsT (l : List UInt8) (i j : Nat) : (bs l).extract i j = bs ((l.drop i).take (j - i)) := by
  apply ByteArray.ext
  rw [ByteArray.data_extract]
  show l.toArray.extract i j = ((l.drop i).take (j - i)).toArray
  simp [List.take_drop]
theorem cutLo (hw : Region.wanted o (yielded ops a.tmps) = true) (t : TypeId) (x lo : Operand) (ho : o.op = .slice t x (some lo) none none) (ht : P.underlying t = some .string) (l : List UInt8) (hx : a.eval x = .string (bs l)) (k : IntKind) (i : Int) (hy : a.eval lo = .int k i) (j : Nat) (hi' : i = (j : Int)) (hj : j ≤ l.length) (m : List UInt8) (hm : l.drop j = m)
    (hk : wpList P ops Q rest (a.put o.dst (.string (bs m))) w) : wpList P ops Q (o :: rest) a w :=
  wpList_step fun K hK => by
    subst hm
    subst hi'
    rw [if_pos hw]
    unfold Oper.wp execOp
    have hr := run_slice_string_l (P := P) (w := w) t (bs l) ht k (j : Int) (by omega) (by rw [bs_size]; omega)
    have e : (bs l).extract j (bs l).size = bs (l.drop j) := by rw [ext_bsT, bs_size, List.take_of_length_le (by rw [List.length_drop]; exact Nat.le_refl _)]
    rw [Int.toNat_natCast, e] at hr
    simp only [ho, hx, hy, Option.map_some, Option.map_none, Sem.run_bind, Sem.run_pure, run_sliceAt_string (P := P) (w := w) t _ _ _ _ ht, hr, Result.andThen_ok]
    exact hK _ _ hk
end
theorem twoL_len (c : Nat) : (twoL c).length = 2 := rfl
theorem hex_tail {c : Nat} (h : c < 256) : (hexL c).drop 6 = twoL c := by
  show [hexD c 6, hexD c 7] = _
  unfold hexD twoL
  rw [show 16 ^ (7 - 6) = 16 from rfl, show 16 ^ (7 - 7) = 1 from rfl, Nat.div_one, Nat.mod_eq_of_lt (show c / 16 < 16 by omega)]
set_option maxRecDepth 100000 in
set_option maxHeartbeats 1000000 in
theorem rtwo_any (c : Nat) (w : World) (h : c < 256) : Calls Tryd.prog 29 #[.int .u8 c] w fun e w' => e = .returned (.string (bs (twoL c))) ∧ Below w.heap.size w w' := by
  have HB := startB w
  have h2 : c < 4294967296 := by omega
  go_enter Tryd.func29, Tryd.ntmps29
  go_wp2_with (first | (go_at_call 28; refine (rhexs_any _ _ (by first | assumption | omega)).mono ?_; rintro e w1 ⟨rfl, hb⟩; replace HB := keepB HB hb; clear hb) | (refine cutLo (by rfl) _ _ _ rfl Tryd.underlying9 (hexL c) rfl _ _ rfl 6 rfl (by rw [hexL_len]; decide) (twoL c) (hex_tail h) ?_))
  go_ret
  exact ⟨rfl, HB.out.1⟩
theorem rline_fin (word : List UInt8) (u : Nat) (d : List UInt8) (hd : ¬ d.length = 0) : word ++ [32] ++ hexL u ++ [32] ++ hexsL d ++ [32] ++ twoL (ckV u d) ++ [10] = lineV word u d := by
  unfold lineV partsL
  rw [if_neg hd]
  simp [Lib.join, List.intercalate, List.intersperse]
theorem rline_start (T : List UInt8) (u : Nat) : T ++ [115, 116, 97, 114, 116, 32] ++ hexL u ++ [32] ++ twoL (ckV u []) ++ [10] = T ++ lineV startW u [] := by
  unfold lineV partsL
  simp [Lib.join, List.intercalate, List.intersperse, startW]
set_option maxRecDepth 100000 in
set_option maxHeartbeats 1000000 in
theorem rline_any (word : List UInt8) (u c : Nat) (A : Option Addr) (d : List UInt8) (w : World) (hu : u < 4294967296) (hx : RdA .u8 w A d.length (ints d)) (hm : d.length ≤ 1000000) (hw : word.length ≤ 1000000) (hd : ¬ d.length = 0) : Calls Tryd.prog 27 #[.string (bs word), .int .u32 u, .slice A d.length c] w fun e w' => e = .returned (.string (bs (lineV word u d))) ∧ Below w.heap.size w w' := by
  have HX := Lib.hid hx
  have HB := startB w
  obtain ⟨b, off, rfl, _⟩ := hx.2 (by omega)
  clear hx
  obtain ⟨H, hH⟩ : ∃ H, word ++ [32] ++ hexL u ++ [32] = H := ⟨_, rfl⟩
  have hHl : H.length ≤ 1000010 := by rw [← hH]; simp only [List.length_append, hexL_len, List.length_cons, List.length_nil]; omega
  have HF : Hid (H ++ hexsL d ++ [32] ++ twoL (ckV u d) ++ [10] = lineV word u d) := Lib.hid (by rw [← hH]; exact rline_fin word u d hd)
  have HH := Lib.hid hH
  clear hH
  go_enter Tryd.func27, Tryd.ntmps27
  go_wp2_with (first | (go_at_call 28; refine (rhexs_any u _ hu).mono ?_; rintro e w1 ⟨rfl, hb⟩; replace HX := Lib.hid (HX.out.below hb); replace HB := keepB HB hb; clear hb) | (refine catL (by rfl) _ _ _ _ rfl _ _ rfl rfl (by simp only [List.length_append, hexL_len, hexsL_len, twoL_len, List.length_take, List.length_cons, List.length_nil]; omega) _ rfl ?_))
  go_loopw [7, 8] (fun o i wr => ∃ k : Nat, k ≤ d.length ∧ i = .int .i64 k ∧ o = .string (bs (H ++ hexsL (d.take k))) ∧ Hid (RdA .u8 wr (some ⟨b, off, none⟩) d.length (ints d)) ∧ Hid (Below w.heap.size w wr ∧ w.heap.size ≤ wr.heap.size)) (fun _ i _ => d.length - (intOf i).toNat)
  case atStart => exact ⟨0, Nat.zero_le _, by first | trivial | rfl, congrArg (fun l => Value.string (bs l)) (by rw [← HH.out]; simp [hexsL]), HX, HB⟩
  case round =>
    clear HX HB
    obtain ⟨k, hk, rfl, rfl, HX, HB⟩ := hrel
    by_cases hlt : k < d.length
    · obtain ⟨b', off', hbb, hc⟩ := HX.out.2 (by omega)
      injection hbb with hbb
      injection hbb with hb1 hb2 _
      subst hb1 hb2
      obtain ⟨x, hxk⟩ : ∃ x, d[k]? = some x := ⟨_, List.getElem?_eq_getElem hlt⟩
      have e1 := hc k hlt
      rw [el_ints hxk] at e1
      have HXK := Lib.hid hxk
      clear hc hxk
      go_wp2_with (first | (go_at_call 29; refine (rtwo_any x.toNat _ x.toNat_lt).mono ?_; rintro e w4 ⟨rfl, hb⟩; replace HX := Lib.hid (HX.out.below hb); replace HB := keepB HB hb; clear hb) | (refine catL (by rfl) _ _ _ _ rfl _ _ rfl rfl (by simp only [List.length_append, hexL_len, hexsL_len, twoL_len, List.length_take, List.length_cons, List.length_nil]; omega) _ rfl ?_))
      go_roundw
      case rel => exact ⟨k + 1, by omega, by first | trivial | go_num, congrArg (fun l => Value.string (bs l)) (by rw [← hexsL_take HXK.out]; try simp), HX, HB⟩
      case measure => simp [intOf]; omega
    · obtain rfl : k = d.length := by omega
      rw [List.take_length]
      go_wp2_with (first | (go_at_call 30; refine (rcks_any u c _ d _ hu HX.out (fun q => absurd q hd) hm).mono ?_; rintro e w3 ⟨rfl, hb⟩; replace HB := keepB HB hb; clear hb) | (go_at_call 29; refine (rtwo_any (ckV u d) _ (ckV_lt u d)).mono ?_; rintro e w4 ⟨rfl, hb⟩; replace HB := keepB HB hb; clear hb) | (refine catL (by rfl) _ _ _ _ rfl _ _ rfl rfl (by simp only [List.length_append, hexL_len, hexsL_len, twoL_len, List.length_take, List.length_cons, List.length_nil]; omega) _ rfl ?_))
      go_ret
      exact ⟨congrArg (fun l => Ending.returned (Value.string (bs l))) (by rw [← HF.out]; try simp), HB.out.1⟩
theorem rcks_nil (u : Nat) (w : World) (hu : u < 4294967296) : Calls Tryd.prog 30 #[.int .u32 u, .slice none 0 0] w fun e w' => e = .returned (.int .u8 ((ckV u [] : Nat) : Int)) ∧ Below w.heap.size w w' := rcks_any u 0 none [] w hu (nil_rd w) (fun _ => ⟨rfl, rfl⟩) (by decide)
end Go.Proofs.YtnigkecpiolgeaaDoor.My
/- Walk: an image as lines: the reference's, whole. -/
set_option linter.unusedVariables false
set_option linter.unusedSimpArgs false
namespace Go.Proofs.YtnigkecpiolgeaaDoor.My
open Go.RowKit
set_option maxRecDepth 100000 in
set_option maxHeartbeats 4000000 in
theorem rtext_any (st c : Nat) (S : Option Addr) (ms : List SegM) (w : World) (hst : st < 4294967296) (hx : RdSg w S ms) (hmx : ms.length ≤ 9223372036854775807) : Calls Tryd.prog 12 #[.agg (imA st S ms.length c)] w fun e w' => e = .returned (.string (bs (textV st (ms.map SegM.v)))) ∧ Below w.heap.size w w' := by
  have HB := startB w
  have HX := Lib.hid hx
  clear hx
  obtain ⟨R, hR⟩ : ∃ R, rightV (ms.map SegM.v) = R := ⟨_, rfl⟩
  have HR := Lib.hid hR
  by_cases h0 : R = 0
  · subst h0
    have h64 : ms.length ≤ 64 := by unfold rightV at hR; split at hR; cases hR; rename_i q; simpa using q
    have hr0 : rightR (ms.map SegM.v) 0 = 0 := by unfold rightV at hR; split at hR; cases hR; exact hR
    have HLE : Hid (∀ s ∈ ms.map SegM.v, s.d.length ≠ 0 ∧ s.at_ + s.d.length ≤ 16384) := Lib.hid (right_le _ _ hr0)
    have ht : textV st (ms.map SegM.v) = (ms.map SegM.v).flatMap segL ++ lineV startW st [] := by unfold textV; rw [if_pos hR]
    rw [ht]
    obtain ⟨T, hT⟩ : ∃ T, (ms.map SegM.v).flatMap segL = T := ⟨_, rfl⟩
    have hTl : T.length ≤ 3276800 * ms.length := by rw [← hT]; have := segs_len (ms.map SegM.v) (fun s hs => by have := HLE.out s hs; omega); simpa using this
    have HT := Lib.hid hT
    rw [hT]
    clear hT ht hR hr0
    go_enter Tryd.func12, Tryd.ntmps12
    go_wp2_with (first | (refine wlBox (by rfl) 25 _ rfl (imA st S ms.length c) rfl ?_; intro gI w2 hg hl ha hb; replace HB := keepB HB hb; have HI := Lib.hid ha; clear ha hb) | (refine rowLoad (by rfl) 25 _ rfl gI rfl (cs := imA st S ms.length c) HI.out Tryd.underlying25 rfl infoIm ?_) | (go_at_call 23; refine (rright_any st c S ms _ (HX.out.below HB.out.1) hmx).mono ?_; rw [HR.out]; rintro e w3 ⟨rfl, hb⟩; replace HI := keepA HI hb; replace HB := keepB HB hb; clear hb))
    go_loopw [3, 4] (fun o i wr => ∃ (k : Nat) (acc : List UInt8), k ≤ ms.length ∧ i = .int .i64 k ∧ o = .string (bs acc) ∧ Hid (acc ++ ((ms.map SegM.v).drop k).flatMap segL = T) ∧ Hid (wr.heap[gI]? = some (.cells (imA st S ms.length c) 25 (0, 0))) ∧ Hid (Below w.heap.size w wr ∧ w.heap.size ≤ wr.heap.size)) (fun _ i _ => ms.length - (intOf i).toNat)
    case atStart => exact ⟨0, [], Nat.zero_le _, by first | trivial | rfl, by first | trivial | rfl, HT, HI, HB⟩
    case round =>
      clear HI HB HT
      obtain ⟨k, acc, hk, rfl, rfl, HT, HI, HB⟩ := hrel
      have i1 : wr.cell? ⟨gI, 1, none⟩ = some (.slice S ms.length c) := cellA HI 1
      by_cases hlt : k < ms.length
      · have hn0 : 0 < ms.length := by omega
        obtain ⟨m, hm⟩ : ∃ m, ms[k]? = some m := ⟨_, List.getElem?_eq_getElem hlt⟩
        have HXW := Lib.hid (HX.out.below HB.out.1)
        obtain ⟨b, off, rfl, _, hcc⟩ := HXW.out.1.2.2 hn0
        have HM := Lib.hid hm
        obtain ⟨m0, m1⟩ := HLE.out m.v (List.mem_map_of_mem (List.mem_of_getElem? hm))
        obtain ⟨m2, _, m3, m4⟩ := HX.out.get hm
        have f1 : wr.cell? ⟨b, off + k * 2 + 1, none⟩ = some (.slice m.D m.d.length m.c) := hcc k (sA m) (sA_get hm) 1 _ rfl
        have hT2 := HT.out
        rw [drop_cons (x := m.v) (by simp [hm]), List.flatMap_cons, ← List.append_assoc] at hT2
        have hA : (acc ++ segL m.v).length ≤ 300000000 := by
          have := congrArg List.length hT2
          rw [List.length_append] at this
          omega
        obtain ⟨A2, hA2⟩ : ∃ A2, acc ++ segL m.v = A2 := ⟨_, rfl⟩
        rw [hA2] at hA hT2
        have HA2 := Lib.hid hA2
        have HT2 := Lib.hid hT2
        obtain ⟨ua, D, cD, d⟩ := m
        replace m0 : d.length ≠ 0 := m0
        replace m1 : ua + d.length ≤ 16384 := m1
        replace m3 : d.length ≤ cD := m3
        replace f1 : wr.cell? ⟨b, off + k * 2 + 1, none⟩ = some (.slice D d.length cD) := f1
        obtain ⟨bD, oD, hD0, _⟩ := m4.2 (by show 0 < d.length; omega)
        replace hD0 : D = some ⟨bD, oD, none⟩ := hD0
        subst hD0
        have HRD : Hid (RdA .u8 w (some ⟨bD, oD, none⟩) d.length (ints d)) := Lib.hid m4
        have HA2' : Hid (acc ++ segT d.length (if 0 = 0 then segW else andW) (ua + 0) (d.drop 0) = A2) := Lib.hid (by rw [if_pos rfl]; exact HA2.out)
        clear hT2 hA2 HT m4 HXW hcc HA2
        go_wp2_with (refine wlIdx (by rfl) 23 _ _ rfl 51 2 Tryd.underlying23 sizeSeg b off ms.length c k rfl rfl hlt ?_)
        clear i1 f1
        go_loopw [3, 6] (fun o i wi => ∃ (n q : Nat) (a2 : List UInt8), o = .string (bs a2) ∧ i = .int .i64 q ∧ q ≤ d.length + 16 ∧ d.length ≤ q + n ∧ Hid (a2 ++ segT n (if q = 0 then segW else andW) (ua + q) (d.drop q) = A2) ∧ Hid (wi.heap[gI]? = some (.cells (imA st (some ⟨b, off, none⟩) ms.length c) 25 (0, 0))) ∧ Hid (Below w.heap.size w wi ∧ w.heap.size ≤ wi.heap.size)) (fun _ i _ => d.length + 16 - (intOf i).toNat)
        case atStart => exact ⟨d.length, 0, acc, by first | trivial | rfl, by first | trivial | rfl, by omega, by omega, HA2', HI, HB⟩
        case round =>
          clear HI HB HA2'
          obtain ⟨n, q, a2, rfl, rfl, hq1, hq2, HA2, HI, HB⟩ := hrel
          by_cases hq : q < d.length
          · obtain ⟨n, rfl⟩ : ∃ n', n = n' + 1 := ⟨n - 1, by omega⟩
            obtain ⟨W, hW⟩ : ∃ W, (if q = 0 then segW else andW) = W := ⟨_, rfl⟩
            have hWl : W.length ≤ 5 := by rw [← hW]; split <;> decide
            have ha := HA2.out
            rw [hW, segT_some n W ua d q hq, ← List.append_assoc] at ha
            obtain ⟨C, hC⟩ : ∃ C, (d.drop q).take 16 = C := ⟨_, rfl⟩
            obtain ⟨z, hz⟩ : ∃ z, min 16 (d.length - q) = z := ⟨_, rfl⟩
            have hz1 : 1 ≤ z ∧ z ≤ 16 ∧ q + z ≤ d.length := by omega
            have HZ := Lib.hid hz
            have HWW := Lib.hid hW
            have hCl : C.length = z := by rw [← hC, List.length_take, List.length_drop]; exact hz
            rw [hC] at ha
            have hCi : ((ints d).drop q).take z = ints C := by
              rw [← hC]
              simp only [ints, List.map_drop, List.map_take]
              rw [← hz]
              apply List.ext_getElem?
              intro j
              by_cases h1 : j < min 16 (d.length - q)
              · rw [List.getElem?_take_of_lt h1, List.getElem?_take_of_lt (by omega)]
              · rw [List.getElem?_eq_none (by simp; omega), List.getElem?_eq_none (by simp; omega)]
            obtain ⟨LN, hLN⟩ : ∃ LN, lineV W (ua + q) C = LN := ⟨_, rfl⟩
            have hLl : LN.length ≤ 200 := by rw [← hLN]; exact lineV_len W _ C hWl (by omega)
            rw [hLN] at ha
            have hbd : a2.length + LN.length ≤ 300000200 := by
              have := congrArg List.length ha
              rw [List.length_append, List.length_append] at this
              omega
            have HLN : Hid (∀ w', Below w.heap.size w w' → Calls Tryd.prog 27 #[.string (bs W), .int .u32 ((ua : Int) + (q : Int)), .slice (some ⟨bD, oD + q, none⟩) z (cD - q)] w' fun e w'' => e = .returned (.string (bs LN)) ∧ Below w'.heap.size w' w'') := Lib.hid (by
              intro w' hb
              have hp := (HRD.out.below hb).part (l := q) (q := z) hz1.2.2
              rw [hCi] at hp
              have := rline_any W (ua + q) (cD - q) (some ⟨bD, oD + q, none⟩) C w' (by omega) (by rw [hCl]; exact hp) (by omega) (by omega) (by omega)
              rw [hCl, hLN] at this
              exact this)
            have HA3 : Hid ((a2 ++ LN) ++ segT n (if q + 16 = 0 then segW else andW) (ua + (q + 16)) (d.drop (q + 16)) = A2) := Lib.hid (by rw [if_neg (by omega)]; exact ha)
            clear HA2 ha hC hz hCl hCi hLN hW
            go_upto_if 32 with (fail)
            go_cut [7] from 31 to 32 (fun s7 wx => wr = wx ∧ s7 = .string (bs W))
            case first =>
              by_cases q0 : q = 0
              · subst q0
                have e : W = segW := by rw [← HWW.out, if_pos rfl]
                subst e
                go_wp2_with fail
                go_meet
                exact ⟨rfl, rfl⟩
              · have e : W = andW := by rw [← HWW.out, if_neg q0]
                subst e
                have q0' : ¬ (q : Int) = 0 := by omega
                go_wp2_with fail
                go_meet
                exact ⟨rfl, rfl⟩
            case rest =>
              obtain ⟨rfl, rfl⟩ := hcut
              clear HWW
              go_upto_if 38 with (fail)
              go_cut [8] from 35 to 40 (fun s8 wx => wr = wx ∧ s8 = .int .i64 ((q + z : Nat) : Int))
              case first =>
                by_cases q0 : d.length < q + 16
                · have q1 : decide ((d.length : Int) < (q : Int) + 16) = true := decide_eq_true (by omega)
                  have e : d.length = q + z := by have := HZ.out; omega
                  go_wp2_with fail
                  go_meet
                  exact ⟨rfl, congrArg (Value.int .i64) (by omega)⟩
                · have q1 : decide ((d.length : Int) < (q : Int) + 16) = false := decide_eq_false (by omega)
                  have e : z = 16 := by have := HZ.out; omega
                  subst e
                  go_wp2_with fail
                  go_meet
                  exact ⟨rfl, rfl⟩
              case rest =>
                obtain ⟨rfl, rfl⟩ := hcut
                have w1 : IntKind.i64.wrap ((q : Int) + 16) = (q : Int) + 16 := by rw [IntKind.wrap_i64]; omega
                have w2 : IntKind.u32.wrap (q : Int) = (q : Int) := by rw [IntKind.wrap_u32]; omega
                have w3 : IntKind.u32.wrap ((ua : Int) + (q : Int)) = (ua : Int) + (q : Int) := by rw [IntKind.wrap_u32]; omega
                have HXW := Lib.hid (HX.out.below HB.out.1)
                obtain ⟨b', off', he, _, hcc⟩ := HXW.out.1.2.2 hn0
                injection he with he
                injection he with e1 e2 _
                subst e1; subst e2
                have HS : Hid ((fun w' => w'.cell? ⟨gI, 1, none⟩ = some (.slice (some ⟨b, off, none⟩) ms.length c) ∧ w'.cell? ⟨b, off + k * 2, none⟩ = some (.int .u32 ua)) wr.drew) := Lib.hid ⟨cellA HI 1, hcc k (sA ⟨ua, some ⟨bD, oD, none⟩, cD, d⟩) (sA_get HM.out) 0 _ rfl⟩
                clear hcc HXW HZ
                replace HI := keepA1 HI
                replace HB := keepB1 HB
                go_upto_region 17 with fail
                refine rgStart (S := (fun w' => w'.cell? ⟨gI, 1, none⟩ = some (.slice (some ⟨b, off, none⟩) ms.length c) ∧ w'.cell? ⟨b, off + k * 2, none⟩ = some (.int .u32 ua))) (n := 18) #[false, false, false, false, false, false, false, false, false, false, false, false, false, false, false, false, false, false] (by kernel_rfl) rfl rfl HS.out (fun hHeld => ?_)
                refine rgTake (i := 0) (N := some 41) (oi := { dst := some 41, op := Op.move (Operand.tmp 3), type := 9, pos := "ref.go:100", after := #[], guard := none }) (v := ?_) #[true, false, false, false, false, false, false, false, false, false, false, false, false, false, false, false, false, false] rfl rfl (by kernel_rfl) (fun _ _ _ h => h) (Or.inl ⟨by rfl, ?_⟩) hHeld ?_
                rotate_left
                · intro w' hSw; (try dsimp only at hSw); (obtain ⟨k1, k2⟩ := hSw); go_simp; try with_reducible rfl
                simp only [Act.put, List.setIfInBounds_toArray, List.set_cons_zero, List.set_cons_succ]
                refine rgTake (i := 1) (N := some 42) (oi := { dst := some 42, op := Op.move (Operand.tmp 7), type := 9, pos := "ref.go:100", after := #[], guard := none }) (v := ?_) #[true, true, false, false, false, false, false, false, false, false, false, false, false, false, false, false, false, false] rfl rfl (by kernel_rfl) (fun _ _ _ h => h) (Or.inl ⟨by rfl, ?_⟩) hHeld ?_
                rotate_left
                · intro w' hSw; (try dsimp only at hSw); (obtain ⟨k1, k2⟩ := hSw); go_simp; try with_reducible rfl
                simp only [Act.put, List.setIfInBounds_toArray, List.set_cons_zero, List.set_cons_succ]
                refine rgTake (i := 2) (N := some 43) (oi := { dst := some 43, op := Op.fieldAddr 25 (Operand.tmp 1) 1, type := 0, pos := "ref.go:100", after := #[], guard := none }) (v := ?_) #[true, true, true, false, false, false, false, false, false, false, false, false, false, false, false, false, false, false] rfl rfl (by kernel_rfl) (fun _ _ _ h => h) (Or.inl ⟨by rfl, ?_⟩) hHeld ?_
                rotate_left
                · intro w' hSw; (try dsimp only at hSw); (obtain ⟨k1, k2⟩ := hSw); go_simp; try with_reducible rfl
                simp only [Act.put, List.setIfInBounds_toArray, List.set_cons_zero, List.set_cons_succ]
                refine rgTake (i := 3) (N := some 44) (oi := { dst := some 44, op := Op.load 23 (Operand.tmp 43), type := 23, pos := "ref.go:100", after := #[{ on := 2, ground := Ground.data }], guard := none }) (v := ?_) #[true, true, true, true, false, false, false, false, false, false, false, false, false, false, false, false, false, false] rfl rfl (by kernel_rfl) (fun _ _ _ h => h) (Or.inl ⟨by rfl, ?_⟩) hHeld ?_
                rotate_left
                · intro w' hSw; (try dsimp only at hSw); (obtain ⟨k1, k2⟩ := hSw); go_simp; try with_reducible rfl
                simp only [Act.put, List.setIfInBounds_toArray, List.set_cons_zero, List.set_cons_succ]
                refine rgTake (i := 4) (N := some 45) (oi := { dst := some 45, op := Op.move (Operand.tmp 4), type := 3, pos := "ref.go:100", after := #[], guard := none }) (v := ?_) #[true, true, true, true, true, false, false, false, false, false, false, false, false, false, false, false, false, false] rfl rfl (by kernel_rfl) (fun _ _ _ h => h) (Or.inl ⟨by rfl, ?_⟩) hHeld ?_
                rotate_left
                · intro w' hSw; (try dsimp only at hSw); (obtain ⟨k1, k2⟩ := hSw); go_simp; try with_reducible rfl
                simp only [Act.put, List.setIfInBounds_toArray, List.set_cons_zero, List.set_cons_succ]
                refine rgTake (i := 5) (N := some 46) (oi := { dst := some 46, op := Op.indexAddr 23 (Operand.tmp 44) (Operand.tmp 45), type := 0, pos := "ref.go:100", after := #[{ on := 3, ground := Ground.data }, { on := 4, ground := Ground.data }], guard := none }) (v := _) #[true, true, true, true, true, true, false, false, false, false, false, false, false, false, false, false, false, false] rfl rfl (by kernel_rfl) (fun _ _ _ h => h) (yieldsIdx (by rfl) 23 _ _ rfl 51 2 Tryd.underlying23 sizeSeg b off ms.length c k rfl rfl hlt) hHeld ?_
                simp only [Act.put, List.setIfInBounds_toArray, List.set_cons_zero, List.set_cons_succ]
                refine rgTake (i := 6) (N := some 47) (oi := { dst := some 47, op := Op.fieldAddr 51 (Operand.tmp 46) 0, type := 0, pos := "ref.go:100", after := #[{ on := 5, ground := Ground.data }], guard := none }) (v := ?_) #[true, true, true, true, true, true, true, false, false, false, false, false, false, false, false, false, false, false] rfl rfl (by kernel_rfl) (fun _ _ _ h => h) (Or.inl ⟨by rfl, ?_⟩) hHeld ?_
                rotate_left
                · intro w' hSw; (try dsimp only at hSw); (obtain ⟨k1, k2⟩ := hSw); go_simp; try with_reducible rfl
                simp only [Act.put, List.setIfInBounds_toArray, List.set_cons_zero, List.set_cons_succ]
                refine rgTake (i := 7) (N := some 48) (oi := { dst := some 48, op := Op.load 22 (Operand.tmp 47), type := 22, pos := "ref.go:100", after := #[{ on := 6, ground := Ground.data }], guard := none }) (v := ?_) #[true, true, true, true, true, true, true, true, false, false, false, false, false, false, false, false, false, false] rfl rfl (by kernel_rfl) (fun _ _ _ h => h) (Or.inl ⟨by rfl, ?_⟩) hHeld ?_
                rotate_left
                · intro w' hSw; (try dsimp only at hSw); (obtain ⟨k1, k2⟩ := hSw); go_simp; try with_reducible rfl
                simp only [Act.put, List.setIfInBounds_toArray, List.set_cons_zero, List.set_cons_succ]
                refine rgTake (i := 8) (N := some 49) (oi := { dst := some 49, op := Op.move (Operand.tmp 6), type := 3, pos := "ref.go:100", after := #[], guard := none }) (v := ?_) #[true, true, true, true, true, true, true, true, true, false, false, false, false, false, false, false, false, false] rfl rfl (by kernel_rfl) (fun _ _ _ h => h) (Or.inl ⟨by rfl, ?_⟩) hHeld ?_
                rotate_left
                · intro w' hSw; (try dsimp only at hSw); (obtain ⟨k1, k2⟩ := hSw); go_simp; try with_reducible rfl
                simp only [Act.put, List.setIfInBounds_toArray, List.set_cons_zero, List.set_cons_succ]
                refine rgTake (i := 9) (N := some 50) (oi := { dst := some 50, op := Op.convert 3 22 (Operand.tmp 49), type := 22, pos := "ref.go:100", after := #[{ on := 8, ground := Ground.data }], guard := none }) (v := ?_) #[true, true, true, true, true, true, true, true, true, true, false, false, false, false, false, false, false, false] rfl rfl (by kernel_rfl) (fun _ _ _ h => h) (Or.inl ⟨by rfl, ?_⟩) hHeld ?_
                rotate_left
                · intro w' hSw; (try dsimp only at hSw); (obtain ⟨k1, k2⟩ := hSw); go_simp; try with_reducible rfl
                simp only [Act.put, List.setIfInBounds_toArray, List.set_cons_zero, List.set_cons_succ]
                refine rgTake (i := 10) (N := some 51) (oi := { dst := some 51, op := Op.binOp BinOp.add 22 (Operand.tmp 48) (Operand.tmp 50) 22, type := 22, pos := "ref.go:100", after := #[{ on := 7, ground := Ground.data }, { on := 9, ground := Ground.data }], guard := none }) (v := ?_) #[true, true, true, true, true, true, true, true, true, true, true, false, false, false, false, false, false, false] rfl rfl (by kernel_rfl) (fun _ _ _ h => h) (Or.inl ⟨by rfl, ?_⟩) hHeld ?_
                rotate_left
                · intro w' hSw; (try dsimp only at hSw); (obtain ⟨k1, k2⟩ := hSw); go_simp; try with_reducible rfl
                simp only [Act.put, List.setIfInBounds_toArray, List.set_cons_zero, List.set_cons_succ]
                refine rgTake (i := 11) (N := some 52) (oi := { dst := some 52, op := Op.move (Operand.tmp 5), type := 26, pos := "ref.go:100", after := #[], guard := none }) (v := ?_) #[true, true, true, true, true, true, true, true, true, true, true, true, false, false, false, false, false, false] rfl rfl (by kernel_rfl) (fun _ _ _ h => h) (Or.inl ⟨by rfl, ?_⟩) hHeld ?_
                rotate_left
                · intro w' hSw; (try dsimp only at hSw); (obtain ⟨k1, k2⟩ := hSw); go_simp; try with_reducible rfl
                simp only [Act.put, List.setIfInBounds_toArray, List.set_cons_zero, List.set_cons_succ]
                refine rgTake (i := 12) (N := some 53) (oi := { dst := some 53, op := Op.move (Operand.tmp 6), type := 3, pos := "ref.go:100", after := #[], guard := none }) (v := ?_) #[true, true, true, true, true, true, true, true, true, true, true, true, true, false, false, false, false, false] rfl rfl (by kernel_rfl) (fun _ _ _ h => h) (Or.inl ⟨by rfl, ?_⟩) hHeld ?_
                rotate_left
                · intro w' hSw; (try dsimp only at hSw); (obtain ⟨k1, k2⟩ := hSw); go_simp; try with_reducible rfl
                simp only [Act.put, List.setIfInBounds_toArray, List.set_cons_zero, List.set_cons_succ]
                refine rgTake (i := 13) (N := some 54) (oi := { dst := some 54, op := Op.move (Operand.tmp 8), type := 3, pos := "ref.go:100", after := #[], guard := none }) (v := ?_) #[true, true, true, true, true, true, true, true, true, true, true, true, true, true, false, false, false, false] rfl rfl (by kernel_rfl) (fun _ _ _ h => h) (Or.inl ⟨by rfl, ?_⟩) hHeld ?_
                rotate_left
                · intro w' hSw; (try dsimp only at hSw); (obtain ⟨k1, k2⟩ := hSw); go_simp; try with_reducible rfl
                simp only [Act.put, List.setIfInBounds_toArray, List.set_cons_zero, List.set_cons_succ]
                refine rgTake (i := 14) (N := some 55) (oi := { dst := some 55, op := Op.slice 26 (Operand.tmp 52) (some (Operand.tmp 53)) (some (Operand.tmp 54)) none, type := 26, pos := "ref.go:100", after := #[{ on := 11, ground := Ground.data }, { on := 12, ground := Ground.data }, { on := 13, ground := Ground.data }], guard := none }) (v := _) #[true, true, true, true, true, true, true, true, true, true, true, true, true, true, true, false, false, false] rfl rfl (by kernel_rfl) (fun _ _ _ h => h) (yieldsSl (by rfl) 26 5 _ _ _ rfl Tryd.underlying26 infoU8 bD oD d.length cD q z rfl _ _ _ _ rfl rfl rfl rfl (by omega) (by omega)) hHeld ?_
                simp only [Act.put, List.setIfInBounds_toArray, List.set_cons_zero, List.set_cons_succ]
                refine rgCall (i := 15) (N := some 56) (oi := { dst := some 56, op := Op.call { callee := Callee.value (Operand.func 27), args := #[Operand.tmp 42, Operand.tmp 51, Operand.tmp 55], argTypes := #[9, 22, 26] }, type := 9, pos := "ref.go:100", after := #[{ on := 1, ground := Ground.data }, { on := 10, ground := Ground.data }, { on := 14, ground := Ground.data }], guard := none }) #[true, true, true, true, true, true, true, true, true, true, true, true, true, true, true, true, false, false] rfl rfl (by kernel_rfl) (fun K hK => ?_)
                go_simp
                (go_at_call 27; refine (HLN.out _ HB.out.1).mono ?_; rintro e w5 ⟨rfl, hb⟩; replace HS : Hid ((fun w' => w'.cell? ⟨gI, 1, none⟩ = some (.slice (some ⟨b, off, none⟩) ms.length c) ∧ w'.cell? ⟨b, off + k * 2, none⟩ = some (.int .u32 ua)) w5) := Lib.hid ⟨cell_below HS.out.1 hb, cell_below HS.out.2 hb⟩; replace HI := keepA HI hb; replace HB := keepB HB hb; clear hb)
                refine hK.out _ _ HS.out (fun hHeld => ?_)
                (try simp only [Act.put, List.setIfInBounds_toArray, List.set_cons_zero, List.set_cons_succ])
                clear hK K
                refine rgTake (i := 16) (N := some 57) (oi := { dst := some 57, op := Op.binOp BinOp.add 9 (Operand.tmp 41) (Operand.tmp 56) 9, type := 9, pos := "ref.go:100", after := #[{ on := 0, ground := Ground.data }, { on := 15, ground := Ground.data }], guard := none }) (v := _) #[true, true, true, true, true, true, true, true, true, true, true, true, true, true, true, true, true, false] rfl rfl (by kernel_rfl) (fun _ _ _ h => h) (yieldsCat (by rfl) _ _ _ _ rfl a2 LN rfl rfl (by omega) _ rfl) hHeld ?_
                simp only [Act.put, List.setIfInBounds_toArray, List.set_cons_zero, List.set_cons_succ]
                refine rgTake (i := 17) (N := some 3) (oi := { dst := some 3, op := Op.assign (Operand.tmp 57), type := 9, pos := "ref.go:100", after := #[{ on := 16, ground := Ground.data }, { on := 15, ground := Ground.chain }, { on := 0, ground := Ground.phase }, { on := 1, ground := Ground.phase }, { on := 2, ground := Ground.phase }, { on := 3, ground := Ground.phase }, { on := 4, ground := Ground.phase }, { on := 5, ground := Ground.phase }, { on := 6, ground := Ground.phase }, { on := 7, ground := Ground.phase }, { on := 8, ground := Ground.phase }, { on := 9, ground := Ground.phase }, { on := 10, ground := Ground.phase }, { on := 11, ground := Ground.phase }, { on := 12, ground := Ground.phase }, { on := 13, ground := Ground.phase }, { on := 14, ground := Ground.phase }, { on := 15, ground := Ground.phase }, { on := 16, ground := Ground.phase }], guard := none }) (v := ?_) #[true, true, true, true, true, true, true, true, true, true, true, true, true, true, true, true, true, true] rfl rfl (by kernel_rfl) (fun _ _ _ h => h) (Or.inl ⟨by rfl, ?_⟩) hHeld ?_
                rotate_left
                · intro w' hSw; (try dsimp only at hSw); (obtain ⟨k1, k2⟩ := hSw); go_simp; try with_reducible rfl
                simp only [Act.put, List.setIfInBounds_toArray, List.set_cons_zero, List.set_cons_succ]
                refine rgDone (by kernel_rfl) ?_ _
                go_wp2
                go_roundw
                case rel => exact ⟨n, q + 16, a2 ++ LN, by first | trivial | rfl, by first | trivial | go_num, by omega, by omega, HA3, HI, HB⟩
                case measure => simp [intOf]; omega
          · have ha := HA2.out
            rw [segT_end n _ _ d q (by omega), List.append_nil] at ha
            subst ha
            go_wp2
            go_roundw
            case rel => exact ⟨k + 1, a2, by omega, by first | trivial | go_num, by first | trivial | rfl, HT2, HI, HB⟩
            case measure => simp [intOf]; omega
      · obtain rfl : k = ms.length := by omega
        have hT2 := HT.out
        rw [List.drop_eq_nil_of_le (by simp), List.flatMap_nil, List.append_nil] at hT2
        subst hT2
        go_wp2_with fail
        clear i1
        have HS : Hid ((fun w' => w'.cell? ⟨gI, 0, none⟩ = some (.int .u32 st)) wr.drew) := Lib.hid (cellA HI 0)
        replace HB := keepB1 HB
        refine rgStart (S := (fun w' => w'.cell? ⟨gI, 0, none⟩ = some (.int .u32 st))) (n := 14) #[false, false, false, false, false, false, false, false, false, false, false, false, false, false] (by kernel_rfl) rfl rfl HS.out (fun hHeld => ?_)
        refine rgTake (i := 0) (N := some 58) (oi := { dst := some 58, op := Op.move (Operand.tmp 3), type := 9, pos := "ref.go:103", after := #[], guard := none }) (v := ?_) #[true, false, false, false, false, false, false, false, false, false, false, false, false, false] rfl rfl (by kernel_rfl) (fun _ _ _ h => h) (Or.inl ⟨by rfl, ?_⟩) hHeld ?_
        rotate_left
        · intro w' hSw; (try dsimp only at hSw); skip; go_simp; try with_reducible rfl
        simp only [Act.put, List.setIfInBounds_toArray, List.set_cons_zero, List.set_cons_succ]
        refine rgTake (i := 1) (N := some 59) (oi := { dst := some 59, op := Op.binOp BinOp.add 9 (Operand.tmp 58) (Operand.const (Value.string { data := #[115, 116, 97, 114, 116, 32] })) 9, type := 9, pos := "ref.go:103", after := #[{ on := 0, ground := Ground.data }], guard := none }) (v := _) #[true, true, false, false, false, false, false, false, false, false, false, false, false, false] rfl rfl (by kernel_rfl) (fun _ _ _ h => h) (yieldsCat (by rfl) _ _ _ _ rfl _ _ rfl rfl (by simp only [List.length_append, hexL_len, twoL_len, List.length_cons, List.length_nil]; omega) _ rfl) hHeld ?_
        simp only [Act.put, List.setIfInBounds_toArray, List.set_cons_zero, List.set_cons_succ]
        refine rgTake (i := 2) (N := some 60) (oi := { dst := some 60, op := Op.fieldAddr 25 (Operand.tmp 1) 0, type := 0, pos := "ref.go:103", after := #[], guard := none }) (v := ?_) #[true, true, true, false, false, false, false, false, false, false, false, false, false, false] rfl rfl (by kernel_rfl) (fun _ _ _ h => h) (Or.inl ⟨by rfl, ?_⟩) hHeld ?_
        rotate_left
        · intro w' hSw; (try dsimp only at hSw); skip; go_simp; try with_reducible rfl
        simp only [Act.put, List.setIfInBounds_toArray, List.set_cons_zero, List.set_cons_succ]
        refine rgTake (i := 3) (N := some 61) (oi := { dst := some 61, op := Op.load 22 (Operand.tmp 60), type := 22, pos := "ref.go:103", after := #[{ on := 2, ground := Ground.data }], guard := none }) (v := ?_) #[true, true, true, true, false, false, false, false, false, false, false, false, false, false] rfl rfl (by kernel_rfl) (fun _ _ _ h => h) (Or.inl ⟨by rfl, ?_⟩) hHeld ?_
        rotate_left
        · intro w' hSw; (try dsimp only at hSw); skip; go_simp; try with_reducible rfl
        simp only [Act.put, List.setIfInBounds_toArray, List.set_cons_zero, List.set_cons_succ]
        refine rgTake (i := 7) (N := some 65) (oi := { dst := some 65, op := Op.fieldAddr 25 (Operand.tmp 1) 0, type := 0, pos := "ref.go:103", after := #[], guard := none }) (v := ?_) #[true, true, true, true, false, false, false, true, false, false, false, false, false, false] rfl rfl (by kernel_rfl) (fun _ _ _ h => h) (Or.inl ⟨by rfl, ?_⟩) hHeld ?_
        rotate_left
        · intro w' hSw; (try dsimp only at hSw); skip; go_simp; try with_reducible rfl
        simp only [Act.put, List.setIfInBounds_toArray, List.set_cons_zero, List.set_cons_succ]
        refine rgTake (i := 8) (N := some 66) (oi := { dst := some 66, op := Op.load 22 (Operand.tmp 65), type := 22, pos := "ref.go:103", after := #[{ on := 7, ground := Ground.data }], guard := none }) (v := ?_) #[true, true, true, true, false, false, false, true, true, false, false, false, false, false] rfl rfl (by kernel_rfl) (fun _ _ _ h => h) (Or.inl ⟨by rfl, ?_⟩) hHeld ?_
        rotate_left
        · intro w' hSw; (try dsimp only at hSw); skip; go_simp; try with_reducible rfl
        simp only [Act.put, List.setIfInBounds_toArray, List.set_cons_zero, List.set_cons_succ]
        refine rgCall (i := 4) (N := some 62) (oi := { dst := some 62, op := Op.call { callee := Callee.value (Operand.func 28), args := #[Operand.tmp 61], argTypes := #[22] }, type := 9, pos := "ref.go:103", after := #[{ on := 3, ground := Ground.data }], guard := none }) #[true, true, true, true, true, false, false, true, true, false, false, false, false, false] rfl rfl (by kernel_rfl) (fun K hK => ?_)
        go_simp
        (go_at_call 28; refine (rhexs_any st _ hst).mono ?_; rintro e w5 ⟨rfl, hb⟩; replace HS : Hid ((fun w' => w'.cell? ⟨gI, 0, none⟩ = some (.int .u32 st)) w5) := Lib.hid (cell_below HS.out hb); replace HB := keepB HB hb; clear hb)
        refine hK.out _ _ HS.out (fun hHeld => ?_)
        (try simp only [Act.put, List.setIfInBounds_toArray, List.set_cons_zero, List.set_cons_succ])
        clear hK K
        refine rgTake (i := 5) (N := some 63) (oi := { dst := some 63, op := Op.binOp BinOp.add 9 (Operand.tmp 59) (Operand.tmp 62) 9, type := 9, pos := "ref.go:103", after := #[{ on := 1, ground := Ground.data }, { on := 4, ground := Ground.data }], guard := none }) (v := _) #[true, true, true, true, true, true, false, true, true, false, false, false, false, false] rfl rfl (by kernel_rfl) (fun _ _ _ h => h) (yieldsCat (by rfl) _ _ _ _ rfl _ _ rfl rfl (by simp only [List.length_append, hexL_len, twoL_len, List.length_cons, List.length_nil]; omega) _ rfl) hHeld ?_
        simp only [Act.put, List.setIfInBounds_toArray, List.set_cons_zero, List.set_cons_succ]
        refine rgTake (i := 6) (N := some 64) (oi := { dst := some 64, op := Op.binOp BinOp.add 9 (Operand.tmp 63) (Operand.const (Value.string { data := #[32] })) 9, type := 9, pos := "ref.go:103", after := #[{ on := 5, ground := Ground.data }], guard := none }) (v := _) #[true, true, true, true, true, true, true, true, true, false, false, false, false, false] rfl rfl (by kernel_rfl) (fun _ _ _ h => h) (yieldsCat (by rfl) _ _ _ _ rfl _ _ rfl rfl (by simp only [List.length_append, hexL_len, twoL_len, List.length_cons, List.length_nil]; omega) _ rfl) hHeld ?_
        simp only [Act.put, List.setIfInBounds_toArray, List.set_cons_zero, List.set_cons_succ]
        refine rgCall (i := 9) (N := some 67) (oi := { dst := some 67, op := Op.call { callee := Callee.value (Operand.func 30), args := #[Operand.tmp 66, Operand.const (Value.slice none 0 0)], argTypes := #[22, 26] }, type := 5, pos := "ref.go:103", after := #[{ on := 8, ground := Ground.data }, { on := 4, ground := Ground.chain }], guard := none }) #[true, true, true, true, true, true, true, true, true, true, false, false, false, false] rfl rfl (by kernel_rfl) (fun K hK => ?_)
        go_simp
        (go_at_call 30; refine (rcks_nil st _ hst).mono ?_; rintro e w5 ⟨rfl, hb⟩; replace HS : Hid ((fun w' => w'.cell? ⟨gI, 0, none⟩ = some (.int .u32 st)) w5) := Lib.hid (cell_below HS.out hb); replace HB := keepB HB hb; clear hb)
        refine hK.out _ _ HS.out (fun hHeld => ?_)
        (try simp only [Act.put, List.setIfInBounds_toArray, List.set_cons_zero, List.set_cons_succ])
        clear hK K
        refine rgCall (i := 10) (N := some 68) (oi := { dst := some 68, op := Op.call { callee := Callee.value (Operand.func 29), args := #[Operand.tmp 67], argTypes := #[5] }, type := 9, pos := "ref.go:103", after := #[{ on := 9, ground := Ground.data }, { on := 9, ground := Ground.chain }], guard := none }) #[true, true, true, true, true, true, true, true, true, true, true, false, false, false] rfl rfl (by kernel_rfl) (fun K hK => ?_)
        go_simp
        (go_at_call 29; refine (rtwo_any (ckV st []) _ (ckV_lt st [])).mono ?_; rintro e w5 ⟨rfl, hb⟩; replace HS : Hid ((fun w' => w'.cell? ⟨gI, 0, none⟩ = some (.int .u32 st)) w5) := Lib.hid (cell_below HS.out hb); replace HB := keepB HB hb; clear hb)
        refine hK.out _ _ HS.out (fun hHeld => ?_)
        (try simp only [Act.put, List.setIfInBounds_toArray, List.set_cons_zero, List.set_cons_succ])
        clear hK K
        refine rgTake (i := 11) (N := some 69) (oi := { dst := some 69, op := Op.binOp BinOp.add 9 (Operand.tmp 64) (Operand.tmp 68) 9, type := 9, pos := "ref.go:103", after := #[{ on := 6, ground := Ground.data }, { on := 10, ground := Ground.data }], guard := none }) (v := _) #[true, true, true, true, true, true, true, true, true, true, true, true, false, false] rfl rfl (by kernel_rfl) (fun _ _ _ h => h) (yieldsCat (by rfl) _ _ _ _ rfl _ _ rfl rfl (by simp only [List.length_append, hexL_len, twoL_len, List.length_cons, List.length_nil]; omega) _ rfl) hHeld ?_
        simp only [Act.put, List.setIfInBounds_toArray, List.set_cons_zero, List.set_cons_succ]
        refine rgTake (i := 12) (N := some 70) (oi := { dst := some 70, op := Op.binOp BinOp.add 9 (Operand.tmp 69) (Operand.const (Value.string { data := #[10] })) 9, type := 9, pos := "ref.go:103", after := #[{ on := 11, ground := Ground.data }], guard := none }) (v := _) #[true, true, true, true, true, true, true, true, true, true, true, true, true, false] rfl rfl (by kernel_rfl) (fun _ _ _ h => h) (yieldsCat (by rfl) _ _ _ _ rfl _ _ rfl rfl (by simp only [List.length_append, hexL_len, twoL_len, List.length_cons, List.length_nil]; omega) _ rfl) hHeld ?_
        simp only [Act.put, List.setIfInBounds_toArray, List.set_cons_zero, List.set_cons_succ]
        refine rgTake (i := 13) (N := some 2) (oi := { dst := some 2, op := Op.assign (Operand.tmp 70), type := 9, pos := "ref.go:103", after := #[{ on := 12, ground := Ground.data }, { on := 10, ground := Ground.chain }, { on := 0, ground := Ground.phase }, { on := 1, ground := Ground.phase }, { on := 2, ground := Ground.phase }, { on := 3, ground := Ground.phase }, { on := 4, ground := Ground.phase }, { on := 5, ground := Ground.phase }, { on := 6, ground := Ground.phase }, { on := 7, ground := Ground.phase }, { on := 8, ground := Ground.phase }, { on := 9, ground := Ground.phase }, { on := 10, ground := Ground.phase }, { on := 11, ground := Ground.phase }, { on := 12, ground := Ground.phase }], guard := none }) (v := ?_) #[true, true, true, true, true, true, true, true, true, true, true, true, true, true] rfl rfl (by kernel_rfl) (fun _ _ _ h => h) (Or.inl ⟨by rfl, ?_⟩) hHeld ?_
        rotate_left
        · intro w' hSw; (try dsimp only at hSw); skip; go_simp; try with_reducible rfl
        simp only [Act.put, List.setIfInBounds_toArray, List.set_cons_zero, List.set_cons_succ]
        refine rgDone (by kernel_rfl) ?_ _
        go_wp2
        go_ret
        exact ⟨congrArg (fun l => Ending.returned (Value.string (bs l))) (by rw [← rline_start acc st]; try simp), HB.out.1⟩
  · have ht : textV st (ms.map SegM.v) = [] := by unfold textV; rw [if_neg (by rw [hR]; exact h0)]
    rw [ht]
    have q0 : ((R : Int) != 0) = true := bne_iff_ne.2 (by omega)
    clear hR ht h0
    go_enter Tryd.func12, Tryd.ntmps12
    go_wp2_with (first | (refine wlBox (by rfl) 25 _ rfl (imA st S ms.length c) rfl ?_; intro gI w2 hg hl ha hb; replace HB := keepB HB hb; have HI := Lib.hid ha; clear ha hb) | (refine rowLoad (by rfl) 25 _ rfl gI rfl (cs := imA st S ms.length c) HI.out Tryd.underlying25 rfl infoIm ?_) | (go_at_call 23; refine (rright_any st c S ms _ (HX.out.below HB.out.1) hmx).mono ?_; rw [HR.out]; rintro e w3 ⟨rfl, hb⟩; replace HI := keepA HI hb; replace HB := keepB HB hb; clear hb))
    go_ret
    exact ⟨rfl, HB.out.1⟩
end Go.Proofs.YtnigkecpiolgeaaDoor.My
/- The law of an image's lines, and of sums: walked. -/
set_option linter.unusedVariables false
set_option linter.unusedSimpArgs false
namespace Go.Proofs.YtnigkecpiolgeaaDoor.My
open Go.RowKit
theorem light_some3 : ∀ (ss : List SegV) (n : Nat), lightR n ss = true → ∀ s ∈ ss, s.d.length ≤ 600
  | [], n, h, s, hs => by cases hs
  | t :: r, n, h, s, hs => by
    rw [lightR] at h
    split at h
    · cases h
    · rcases List.mem_cons.1 hs with rfl | hs
      · omega
      · exact light_some3 r _ h s hs
theorem light_600 {ss : List SegV} (h : lightB ss = true) : ∀ s ∈ ss, s.d.length ≤ 600 := by
  unfold lightB at h
  split at h
  · cases h
  · exact light_some3 ss 0 h
set_option maxRecDepth 100000 in
set_option maxHeartbeats 4000000 in
theorem texts_out (st c : Nat) (S : Option Addr) (ms : List SegM) (A : Option Addr) (cb : Nat) (l : List UInt8) (m : Int) (w : World) (hM : w.cell? ⟨0, 0, none⟩ = some (.int .i64 m)) (hx : RdSgG w S ms) (hmx : ms.length ≤ 9223372036854775807) (hmc : ms.length ≤ c) (hL : lightB (ms.map SegM.v) = false) : Calls Tryd.prog 3 #[.agg (imA st S ms.length c), .slice A l.length cb] w fun e w' => e = .returned (.bool true) ∧ Below w.heap.size w w' := by
  have HB := startB w
  have HM := Lib.hid hM
  have HX := Lib.hid hx
  have HLT := Lib.hid hL
  clear hM hx hL
  go_enter Tryd.func3, Tryd.ntmps3
  go_upto_region 2 with (first | (refine wlBox ?_ 25 _ rfl (imA st S ms.length c) rfl ?_; exact rfl; intro gI w1 hg hl ha hb; replace HB := keepB HB hb; have HI := Lib.hid ha; clear ha hb hg hl) | (refine rowLoad ?_ 25 _ rfl gI rfl (cs := imA st S ms.length c) HI.out Tryd.underlying25 rfl infoIm ?_; exact rfl) | (go_at_call 9; refine (light_any st c S ms _ (HX.out.below HB.out.1) hmx hmc).mono ?_; rw [HLT.out]; rintro e w2 ⟨rfl, hb⟩; replace HB := keepB HB hb; replace HI := keepA HI hb; clear hb))
  go_wp2_with (go_at_call 10; refine (awake_any m _ ((HB.out.1.cell (World.block_lt_of_cell? w _ HM.out)).trans HM.out)).mono ?_; rintro e w9 ⟨rfl, hb⟩; replace HB := keepB HB hb; clear hb)
  go_ret
  exact ⟨rfl, HB.out.1⟩
set_option maxRecDepth 100000 in
set_option maxHeartbeats 4000000 in
theorem texts_long (st c : Nat) (S : Option Addr) (ms : List SegM) (A : Option Addr) (cb : Nat) (l : List UInt8) (m : Int) (w : World) (hM : w.cell? ⟨0, 0, none⟩ = some (.int .i64 m)) (hx : RdSgG w S ms) (hmx : ms.length ≤ 9223372036854775807) (hmc : ms.length ≤ c) (hL : lightB (ms.map SegM.v) = true) (hl : 300 < l.length) : Calls Tryd.prog 3 #[.agg (imA st S ms.length c), .slice A l.length cb] w fun e w' => e = .returned (.bool true) ∧ Below w.heap.size w w' := by
  have HB := startB w
  have HM := Lib.hid hM
  have HX := Lib.hid hx
  have HLT := Lib.hid hL
  have q : decide (300 < l.length) = true := decide_eq_true hl
  clear hM hx hL
  go_enter Tryd.func3, Tryd.ntmps3
  go_upto_region 2 with (first | (refine wlBox ?_ 25 _ rfl (imA st S ms.length c) rfl ?_; exact rfl; intro gI w1 hg hl ha hb; replace HB := keepB HB hb; have HI := Lib.hid ha; clear ha hb hg hl) | (refine rowLoad ?_ 25 _ rfl gI rfl (cs := imA st S ms.length c) HI.out Tryd.underlying25 rfl infoIm ?_; exact rfl) | (go_at_call 9; refine (light_any st c S ms _ (HX.out.below HB.out.1) hmx hmc).mono ?_; rw [HLT.out]; rintro e w2 ⟨rfl, hb⟩; replace HB := keepB HB hb; replace HI := keepA HI hb; clear hb))
  go_wp2_with (go_at_call 10; refine (awake_any m _ ((HB.out.1.cell (World.block_lt_of_cell? w _ HM.out)).trans HM.out)).mono ?_; rintro e w9 ⟨rfl, hb⟩; replace HB := keepB HB hb; clear hb)
  go_ret
  exact ⟨rfl, HB.out.1⟩
set_option maxRecDepth 100000 in
set_option maxHeartbeats 4000000 in
theorem texts_in (st c : Nat) (S : Option Addr) (ms : List SegM) (A : Option Addr) (cb : Nat) (l : List UInt8) (m : Int) (w : World) (hM : w.cell? ⟨0, 0, none⟩ = some (.int .i64 m)) (hst : st < 4294967296) (hx : RdSgG w S ms) (hmx : ms.length ≤ 9223372036854775807) (hmc : ms.length ≤ c) (hL : lightB (ms.map SegM.v) = true) (hl : l.length ≤ 300) (hr : RdA .u8 w A l.length (ints l)) (T : ByteArray) (hT : bs (textV st (ms.map SegM.v)) = T) (V : Nat) (hV : sumV l = V) : Calls Tryd.prog 3 #[.agg (imA st S ms.length c), .slice A l.length cb] w fun e w' => e = .returned (.bool true) ∧ Below w.heap.size w w' := by
  have HB := startB w
  have HM := Lib.hid hM
  have HX := Lib.hid hx
  have HLT := Lib.hid hL
  have HXS : Hid (RdSg w S ms) := Lib.hid (hx.small fun m hm => Nat.le_trans (light_600 hL m.v (List.mem_map_of_mem hm)) (by decide))
  have HT1 : Hid (∀ w2, Below w.heap.size w w2 → Calls Tryd.prog 11 #[.agg (imA st S ms.length c)] w2 fun e w' => e = .returned (.string T) ∧ Below w2.heap.size w2 w') := Lib.hid (fun w2 hb => by have := text_any st c S ms w2 hst (HXS.out.below hb) hmx; rwa [hT] at this)
  have HT2 : Hid (∀ w2, Below w.heap.size w w2 → Calls Tryd.prog 12 #[.agg (imA st S ms.length c)] w2 fun e w' => e = .returned (.string T) ∧ Below w2.heap.size w2 w') := Lib.hid (fun w2 hb => by have := rtext_any st c S ms w2 hst (HXS.out.below hb) hmx; rwa [hT] at this)
  have HS1 : Hid (∀ w2, Below w.heap.size w w2 → Calls Tryd.prog 13 #[.slice A l.length cb] w2 fun e w' => e = .returned (.int .u8 (V : Nat)) ∧ Below w2.heap.size w2 w') := Lib.hid (fun w2 hb => by have := sum_any A cb l w2 (hr.below hb) (by omega); rwa [hV] at this)
  have HS2 : Hid (∀ w2, Below w.heap.size w w2 → Calls Tryd.prog 14 #[.slice A l.length cb] w2 fun e w' => e = .returned (.int .u8 (V : Nat)) ∧ Below w2.heap.size w2 w') := Lib.hid (fun w2 hb => by have := rsums_any A cb l w2 (hr.below hb) (by omega); rwa [hV] at this)
  have q : decide (300 < l.length) = false := decide_eq_false (by omega)
  clear hM hx hL hT hV HXS hr hst
  go_enter Tryd.func3, Tryd.ntmps3
  go_upto_region 3 with (first | (refine wlBox ?_ 25 _ rfl (imA st S ms.length c) rfl ?_; exact rfl; intro gI w1 hg hl ha hb; replace HB := keepB HB hb; have HI := Lib.hid ha; clear ha hb hg hl) | (refine rowLoad ?_ 25 _ rfl gI rfl (cs := imA st S ms.length c) HI.out Tryd.underlying25 rfl infoIm ?_; exact rfl) | (go_at_call 9; refine (light_any st c S ms _ (HX.out.below HB.out.1) hmx hmc).mono ?_; rw [HLT.out]; rintro e w2 ⟨rfl, hb⟩; replace HB := keepB HB hb; replace HI := keepA HI hb; clear hb))
  replace HB := keepB1 HB
  replace HI := keepA1 HI
  refine rgStart (S := (fun w' => w'.heap[gI]? = some (.cells (imA st S ms.length c) 25 (0, 0)))) (n := 16) #[false, false, false, false, false, false, false, false, false, false, false, false, false, false, false, false] (by kernel_rfl) rfl rfl HI.out (fun hHeld => ?_)
  refine rgTake (i := 0) (N := some 14) (oi := { dst := some 14, op := Op.load 25 (Operand.tmp 2), type := 25, pos := "law.go:48", after := #[], guard := none }) (v := _) #[true, false, false, false, false, false, false, false, false, false, false, false, false, false, false, false] rfl rfl (by kernel_rfl) (fun _ _ _ h => h) (yieldsRow (by rfl) _ _ rfl _ rfl (fun _ h => h) Tryd.underlying25 rfl infoIm) hHeld ?_
  simp only [Act.put, List.setIfInBounds_toArray, List.set_cons_zero, List.set_cons_succ]
  refine rgTake (i := 2) (N := some 16) (oi := { dst := some 16, op := Op.load 25 (Operand.tmp 2), type := 25, pos := "law.go:48", after := #[], guard := none }) (v := _) #[true, false, true, false, false, false, false, false, false, false, false, false, false, false, false, false] rfl rfl (by kernel_rfl) (fun _ _ _ h => h) (yieldsRow (by rfl) _ _ rfl _ rfl (fun _ h => h) Tryd.underlying25 rfl infoIm) hHeld ?_
  simp only [Act.put, List.setIfInBounds_toArray, List.set_cons_zero, List.set_cons_succ]
  refine rgCall (i := 1) (N := some 15) (oi := { dst := some 15, op := Op.call { callee := Callee.value (Operand.func 11), args := #[Operand.tmp 14], argTypes := #[25] }, type := 9, pos := "law.go:48", after := #[{ on := 0, ground := Ground.data }], guard := none }) #[true, true, true, false, false, false, false, false, false, false, false, false, false, false, false, false] rfl rfl (by kernel_rfl) (fun K hK => ?_)
  go_simp
  (go_at_call 11; refine (HT1.out _ HB.out.1).mono ?_; clear HT1; rintro e w5 ⟨rfl, hb⟩; replace HB := keepB HB hb; replace HI := keepA HI hb; clear hb)
  refine hK.out _ _ HI.out (fun hHeld => ?_)
  (try simp only [Act.put, List.setIfInBounds_toArray, List.set_cons_zero, List.set_cons_succ])
  clear hK K
  refine rgCall (i := 3) (N := some 17) (oi := { dst := some 17, op := Op.call { callee := Callee.value (Operand.func 12), args := #[Operand.tmp 16], argTypes := #[25] }, type := 9, pos := "law.go:48", after := #[{ on := 2, ground := Ground.data }, { on := 1, ground := Ground.chain }], guard := none }) #[true, true, true, true, false, false, false, false, false, false, false, false, false, false, false, false] rfl rfl (by kernel_rfl) (fun K hK => ?_)
  go_simp
  (go_at_call 12; refine (HT2.out _ HB.out.1).mono ?_; clear HT2; rintro e w5 ⟨rfl, hb⟩; replace HB := keepB HB hb; replace HI := keepA HI hb; clear hb)
  refine hK.out _ _ HI.out (fun hHeld => ?_)
  (try simp only [Act.put, List.setIfInBounds_toArray, List.set_cons_zero, List.set_cons_succ])
  clear hK K
  refine rgTake (i := 4) (N := some 18) (oi := { dst := some 18, op := Op.binOp BinOp.eql 9 (Operand.tmp 15) (Operand.tmp 17) 9, type := 4, pos := "law.go:48", after := #[{ on := 1, ground := Ground.data }, { on := 3, ground := Ground.data }], guard := none }) (v := ?_) #[true, true, true, true, true, false, false, false, false, false, false, false, false, false, false, false] rfl rfl (by kernel_rfl) (fun _ _ _ h => h) (Or.inl ⟨by rfl, ?_⟩) hHeld ?_
  rotate_left
  · intro w' hSw; (try dsimp only at hSw); skip; go_simp; try with_reducible rfl
  simp only [Act.put, List.setIfInBounds_toArray, List.set_cons_zero, List.set_cons_succ]
  refine rgTake (i := 5) (N := some 19) (oi := { dst := some 19, op := Op.move (Operand.tmp 18), type := 4, pos := "law.go:48", after := #[{ on := 4, ground := Ground.data }, { on := 3, ground := Ground.chain }], guard := none }) (v := ?_) #[true, true, true, true, true, true, false, false, false, false, false, false, false, false, false, false] rfl rfl (by kernel_rfl) (fun _ _ _ h => h) (Or.inl ⟨by rfl, ?_⟩) hHeld ?_
  rotate_left
  · intro w' hSw; (try dsimp only at hSw); skip; go_simp; try with_reducible rfl
  simp only [Act.put, List.setIfInBounds_toArray, List.set_cons_zero, List.set_cons_succ]
  refine rgTake (i := 6) (N := some 20) (oi := { dst := some 20, op := Op.move (Operand.tmp 1), type := 26, pos := "law.go:48", after := #[{ on := 5, ground := Ground.guard }], guard := some (5, true) }) (v := ?_) #[true, true, true, true, true, true, true, false, false, false, false, false, false, false, false, false] rfl rfl (by kernel_rfl) (fun _ _ _ h => h) (Or.inl ⟨by rfl, ?_⟩) hHeld ?_
  rotate_left
  · intro w' hSw; (try dsimp only at hSw); skip; go_simp; try with_reducible rfl
  simp only [Act.put, List.setIfInBounds_toArray, List.set_cons_zero, List.set_cons_succ]
  refine rgTake (i := 8) (N := some 22) (oi := { dst := some 22, op := Op.move (Operand.tmp 1), type := 26, pos := "law.go:48", after := #[{ on := 5, ground := Ground.guard }], guard := some (5, true) }) (v := ?_) #[true, true, true, true, true, true, true, false, true, false, false, false, false, false, false, false] rfl rfl (by kernel_rfl) (fun _ _ _ h => h) (Or.inl ⟨by rfl, ?_⟩) hHeld ?_
  rotate_left
  · intro w' hSw; (try dsimp only at hSw); skip; go_simp; try with_reducible rfl
  simp only [Act.put, List.setIfInBounds_toArray, List.set_cons_zero, List.set_cons_succ]
  refine rgCall (i := 7) (N := some 21) (oi := { dst := some 21, op := Op.call { callee := Callee.value (Operand.func 13), args := #[Operand.tmp 20], argTypes := #[26] }, type := 5, pos := "law.go:48", after := #[{ on := 6, ground := Ground.data }, { on := 5, ground := Ground.chain }, { on := 5, ground := Ground.guard }], guard := some (5, true) }) #[true, true, true, true, true, true, true, true, true, false, false, false, false, false, false, false] rfl rfl (by kernel_rfl) (fun K hK => ?_)
  go_simp
  (go_at_call 13; refine (HS1.out _ HB.out.1).mono ?_; clear HS1; rintro e w6 ⟨rfl, hb⟩; replace HB := keepB HB hb; replace HI := keepA HI hb; clear hb)
  refine hK.out _ _ HI.out (fun hHeld => ?_)
  (try simp only [Act.put, List.setIfInBounds_toArray, List.set_cons_zero, List.set_cons_succ])
  clear hK K
  refine rgCall (i := 9) (N := some 23) (oi := { dst := some 23, op := Op.call { callee := Callee.value (Operand.func 14), args := #[Operand.tmp 22], argTypes := #[26] }, type := 5, pos := "law.go:48", after := #[{ on := 8, ground := Ground.data }, { on := 7, ground := Ground.chain }, { on := 5, ground := Ground.guard }], guard := some (5, true) }) #[true, true, true, true, true, true, true, true, true, true, false, false, false, false, false, false] rfl rfl (by kernel_rfl) (fun K hK => ?_)
  go_simp
  (go_at_call 14; refine (HS2.out _ HB.out.1).mono ?_; clear HS2; rintro e w7 ⟨rfl, hb⟩; replace HB := keepB HB hb; replace HI := keepA HI hb; clear hb)
  refine hK.out _ _ HI.out (fun hHeld => ?_)
  (try simp only [Act.put, List.setIfInBounds_toArray, List.set_cons_zero, List.set_cons_succ])
  clear hK K
  refine rgTake (i := 10) (N := some 24) (oi := { dst := some 24, op := Op.binOp BinOp.eql 5 (Operand.tmp 21) (Operand.tmp 23) 5, type := 4, pos := "law.go:48", after := #[{ on := 7, ground := Ground.data }, { on := 9, ground := Ground.data }, { on := 5, ground := Ground.guard }], guard := some (5, true) }) (v := ?_) #[true, true, true, true, true, true, true, true, true, true, true, false, false, false, false, false] rfl rfl (by kernel_rfl) (fun _ _ _ h => h) (Or.inl ⟨by rfl, ?_⟩) hHeld ?_
  rotate_left
  · intro w' hSw; (try dsimp only at hSw); skip; go_simp; try with_reducible rfl
  simp only [Act.put, List.setIfInBounds_toArray, List.set_cons_zero, List.set_cons_succ]
  refine rgTake (i := 11) (N := some 25) (oi := { dst := some 25, op := Op.pick (Operand.tmp 19) (Operand.tmp 24) (Operand.const (Value.bool false)), type := 4, pos := "law.go:48", after := #[{ on := 5, ground := Ground.data }, { on := 10, ground := Ground.data }], guard := none }) (v := ?_) #[true, true, true, true, true, true, true, true, true, true, true, true, false, false, false, false] rfl rfl (by kernel_rfl) (fun _ _ _ h => h) (Or.inl ⟨by rfl, ?_⟩) hHeld ?_
  rotate_left
  · intro w' hSw; (try dsimp only at hSw); skip; go_simp; try with_reducible rfl
  simp only [Act.put, List.setIfInBounds_toArray, List.set_cons_zero, List.set_cons_succ]
  refine rgTake (i := 12) (N := some 26) (oi := { dst := some 26, op := Op.move (Operand.tmp 25), type := 4, pos := "law.go:48", after := #[{ on := 11, ground := Ground.data }, { on := 9, ground := Ground.chain }], guard := none }) (v := ?_) #[true, true, true, true, true, true, true, true, true, true, true, true, true, false, false, false] rfl rfl (by kernel_rfl) (fun _ _ _ h => h) (Or.inl ⟨by rfl, ?_⟩) hHeld ?_
  rotate_left
  · intro w' hSw; (try dsimp only at hSw); skip; go_simp; try with_reducible rfl
  simp only [Act.put, List.setIfInBounds_toArray, List.set_cons_zero, List.set_cons_succ]
  refine rgCall (i := 13) (N := some 27) (oi := { dst := some 27, op := Op.call { callee := Callee.value (Operand.func 10), args := #[], argTypes := #[] }, type := 4, pos := "law.go:48", after := #[{ on := 12, ground := Ground.chain }, { on := 12, ground := Ground.guard }], guard := some (12, true) }) #[true, true, true, true, true, true, true, true, true, true, true, true, true, true, false, false] rfl rfl (by kernel_rfl) (fun K hK => ?_)
  go_simp
  (go_at_call 10; refine (awake_any m _ ((HB.out.1.cell (World.block_lt_of_cell? w _ HM.out)).trans HM.out)).mono ?_; rintro e w9 ⟨rfl, hb⟩; replace HB := keepB HB hb; replace HI := keepA HI hb; clear hb)
  refine hK.out _ _ HI.out (fun hHeld => ?_)
  (try simp only [Act.put, List.setIfInBounds_toArray, List.set_cons_zero, List.set_cons_succ])
  clear hK K
  refine rgTake (i := 14) (N := some 28) (oi := { dst := some 28, op := Op.pick (Operand.tmp 26) (Operand.tmp 27) (Operand.const (Value.bool false)), type := 4, pos := "law.go:48", after := #[{ on := 12, ground := Ground.data }, { on := 13, ground := Ground.data }], guard := none }) (v := ?_) #[true, true, true, true, true, true, true, true, true, true, true, true, true, true, true, false] rfl rfl (by kernel_rfl) (fun _ _ _ h => h) (Or.inl ⟨by rfl, ?_⟩) hHeld ?_
  rotate_left
  · intro w' hSw; (try dsimp only at hSw); skip; go_simp; try with_reducible rfl
  simp only [Act.put, List.setIfInBounds_toArray, List.set_cons_zero, List.set_cons_succ]
  refine rgTake (i := 15) (N := some 4) (oi := { dst := some 4, op := Op.assign (Operand.tmp 28), type := 4, pos := "law.go:48", after := #[{ on := 14, ground := Ground.data }, { on := 13, ground := Ground.chain }, { on := 0, ground := Ground.phase }, { on := 1, ground := Ground.phase }, { on := 2, ground := Ground.phase }, { on := 3, ground := Ground.phase }, { on := 4, ground := Ground.phase }, { on := 5, ground := Ground.phase }, { on := 6, ground := Ground.phase }, { on := 7, ground := Ground.phase }, { on := 8, ground := Ground.phase }, { on := 9, ground := Ground.phase }, { on := 10, ground := Ground.phase }, { on := 11, ground := Ground.phase }, { on := 12, ground := Ground.phase }, { on := 13, ground := Ground.phase }, { on := 14, ground := Ground.phase }], guard := none }) (v := ?_) #[true, true, true, true, true, true, true, true, true, true, true, true, true, true, true, true] rfl rfl (by kernel_rfl) (fun _ _ _ h => h) (Or.inl ⟨by rfl, ?_⟩) hHeld ?_
  rotate_left
  · intro w' hSw; (try dsimp only at hSw); skip; go_simp; try with_reducible rfl
  simp only [Act.put, List.setIfInBounds_toArray, List.set_cons_zero, List.set_cons_succ]
  refine rgDone (by kernel_rfl) ?_ _
  go_wp2
  go_ret
  exact ⟨rfl, HB.out.1⟩
end Go.Proofs.YtnigkecpiolgeaaDoor.My
set_option linter.unusedVariables false
set_option linter.unusedSimpArgs false
namespace Go.Proofs.YtnigkecpiolgeaaDoor.My
open Go.RowKit
theorem texts_any (st c : Nat) (S : Option Addr) (ms : List SegM) (A : Option Addr) (cb : Nat) (l : List UInt8) (m : Int) (w : World) (hM : w.cell? ⟨0, 0, none⟩ = some (.int .i64 m)) (hst : st < 4294967296) (hx : RdSgG w S ms) (hmx : ms.length ≤ 9223372036854775807) (hmc : ms.length ≤ c) (hr : RdA .u8 w A l.length (ints l)) :
    Calls Tryd.prog 3 #[.agg (imA st S ms.length c), .slice A l.length cb] w fun e w' => e = .returned (.bool true) ∧ Below w.heap.size w w' := by
  by_cases hL : lightB (ms.map SegM.v) = true
  · by_cases hl : 300 < l.length
    · exact texts_long st c S ms A cb l m w hM hx hmx hmc hL hl
    · exact texts_in st c S ms A cb l m w hM hst hx hmx hmc hL (by omega) hr _ rfl _ rfl
  · exact texts_out st c S ms A cb l m w hM hx hmx hmc (by simpa using hL)
set_option maxRecDepth 100000 in
theorem open_bytes {w : World} {H : Type} {enc : TypeId × Value → H} {r : Reach} {b0 base : Nat} {spare : Nat → Bool} {held : Bool} {v : Value} {d : DataW H} {ps : List MemPlace} (hval : Value.okWide Tryd.prog w r b0 26 v) (hd : DataW.Trod enc Tryd.prog w base spare held 26 v d ps) :
    ∃ (A : Option Addr) (c : Nat) (l : List UInt8), v = .slice A l.length c ∧ RdA .u8 w A l.length (ints l) := by
  have hc := okWide_slice Tryd.underlying26 hval
  obtain ⟨fuel, h⟩ := hd
  rw [hc] at h
  obtain ⟨D, c, l, rfl, e1, _⟩ := bytes_of h
  exact ⟨D, c, l, rfl, e1⟩
end Go.Proofs.YtnigkecpiolgeaaDoor.My
namespace Go.Proofs.YtnigkecpiolgeaaDoor
open Go.ChangeShapes Go.WideShapes Go.ChangeAt Go.RowKit My
theorem own_RomTexts : ownKnob Tryd.prog.godebug = none := by kernel_rfl
theorem laidOut_RomTexts : laidOutB Tryd.prog = true := by kernel_rfl
noncomputable def laid_RomTexts : List (String × DataW Unit) := [("unicode/utf8.acceptRanges", Rows.laid_unicode_utf8_acceptRanges), ("unicode/utf8.first", Rows.laid_unicode_utf8_first)]
set_option maxRecDepth 100000 in
theorem lifted_RomTexts (os : Os) (started : os.Started) (H : Type) (enc : TypeId × Value → H) :
    ReturnsInHanded {} Tryd.checked os 3 .any (fun w args => (Rows.romTextsSpec.pre enc Tryd.prog Tryd.f3 [] false w args ∧ laidMetH Tryd.prog laid_RomTexts w) ∧ sizedMet enc Tryd.prog Tryd.f3 (OpenSpec.ofChange Rows.romTextsSpec) false w args) (Rows.romTextsSpec.post enc Tryd.prog Tryd.f3 false true false false) := by
  refine handed_shaped (C := Tryd.checked) (X := fun w _ => laidMetH Tryd.prog laid_RomTexts w) (fun _ _ _ hh h => h.of_heap hh) own_RomTexts started (by kernel_rfl) Tryd.func3
    (ChangeSpec.witness_shaped (enc := enc) (C := Tryd.checked) (os := os) (X := fun w _ => laidMetH Tryd.prog laid_RomTexts w) false (World.laidAll Tryd.prog os laid_RomTexts) #[.agg #[.int .u32 0, .slice none 0 0], .slice none 0 0] 8 (World.laidAll_os _ _ _)
      (World.shaped_of_ZipB (by kernel_rfl) (by kernel_rfl)) (by kernel_rfl) (by kernel_rfl) (by kernel_rfl)
      (by rw [MakeChecks.laidMetH_plain _ _ _ (by kernel_rfl)]; exact laidMet_laidAll _ (by kernel_rfl) (by kernel_rfl))) ?_
  intro W base args ds gs before hval0 hW hcnd hsz0 hsh _ _
  obtain ⟨mx, hmx⟩ := Tryd.maxLen_cell W hsh
  have hsz : (DataW.weightsEach Tryd.prog (Tryd.f3.params.toList ++ Rows.romTextsSpec.plain.varTypes Tryd.prog) (ds ++ gs)).all (· ≤ reachBytes) = true := hsz0
  have hval : ∀ (j : Nat) t v, Tryd.f3.params[j]? = some t → args[j]? = some v → Value.okWide Tryd.prog W .any base t v := hval0
  have hW' := hW
  obtain ⟨p, q, hA0, hV, rfl, hfz, hnd⟩ := hW
  have hA : DataW.TrodAll enc Tryd.prog W 0 (fun _ => true) true Tryd.f3.params.toList args.toList ds p := hA0
  rw [Tryd.params3] at hA hval hsz
  obtain ⟨v0, vs0, d0, ds0, p0, q0, hargs, rfl, rfl, h0, r0⟩ := trodAll_cons hA
  obtain ⟨v1, vs1, d1, ds1, p1, q1, rfl, rfl, rfl, h1, r1⟩ := trodAll_cons r0
  obtain ⟨rfl, rfl, rfl⟩ := trodAll_nil r1
  obtain rfl : args = #[v0, v1] := by cases args; simp_all
  obtain ⟨rfl, rfl⟩ := trodVars_none hV
  have ok0 := hval 0 25 v0 rfl rfl
  have ok1 := hval 1 26 v1 rfl rfl
  have lt0 : ∀ x ∈ p0, x.block < W.heap.size := fun x hx => by simpa using hW'.lt x (by simp [hx])
  have lt1 : ∀ x ∈ p1, x.block < W.heap.size := fun x hx => by simpa using hW'.lt x (by simp [hx])
  clear hA0 hval0 hsz0
  obtain ⟨st, S, ms, c, rfl, hst, hx, hm1, hm2⟩ := open_image ok0 h0; obtain ⟨A, cb, l, rfl, hr⟩ := open_bytes ok1 h1
  refine (texts_any st c S ms A cb l mx W hmx hst hx hm1 hm2 hr).mono fun e W' ⟨he, bel⟩ => ?_
  subst he
  exact ⟨_, rfl, _, _, _, [], _, [], hW', trodAll_mk1 (shut_bool Tryd.underlying4 _), (trodAll_cons_mk (Below.trod laidOut_RomTexts (by kernel_rfl) (of_decide_eq_true (by kernel_rfl)) h0 bel lt0) (trodAll_cons_mk (Below.trod laidOut_RomTexts (by kernel_rfl) (of_decide_eq_true (by kernel_rfl)) h1 bel lt1) trodAll_mk0)), rfl, bel.frame _, fun h => by cases h⟩
theorem romTexts_holds : Rows.RomTextsSaid :=
  OpenClaim.holds_of_wide 3 Tryd.f3 rfl rfl rfl rfl rfl rfl rfl ⟨rfl, rfl, rfl, rfl, rfl⟩ rfl rfl rfl rfl rfl (by kernel_rfl) Tryd.func3 (by kernel_rfl)
    (of_decide_eq_true (by kernel_rfl)) (by unfold Func.isWrapper; first | (rw [if_pos (by decide +kernel)]; kernel_rfl) | (rw [if_neg (by decide +kernel)]; exact ⟨rfl, rfl⟩))
    (fun os started H enc _ => lifted_RomTexts os started H enc)
#print axioms romTexts_holds
theorem card_romTexts : Rows.RomTextsCardSaid :=
  Claim7.holds_tied_plain_at .later [] [.data, .pinned] true (true, "ef81543063f4ba5f1c774ca9fdd4416c8adb239c719eeecd79f77349a7be26b1") false
    romTexts_holds (fun _ h => by cases h) (by kernel_rfl) (fun _ h => by cases h) romTexts_row_tie rfl ⟨rfl, rfl⟩ (by kernel_rfl) rfl
    (fun f fn hf hfn => by
      obtain rfl : f = 3 := Option.some.inj ((show Tryd.prog.funcNamed "cotterel/cotterellaw09.RomTexts" = some 3 by kernel_rfl).symm.trans hf) |>.symm
      obtain rfl : fn = Tryd.f3 := (Option.some.inj (Tryd.func3.symm.trans hfn)).symm
      exact ⟨by kernel_rfl, fun j t ht => by
        rw [Tryd.params3] at ht
        have hm : t ∈ [25, 26] := by simpa using Array.mem_of_getElem? ht
        have hall : ([25, 26].all fun u => !Tryd.prog.wantsStandIn u) = true := by kernel_rfl
        exact (show Tryd.prog.wantsStandIn t = false by simpa using List.all_eq_true.1 hall t hm)⟩)
    (by kernel_rfl)
#print axioms card_romTexts
end Go.Proofs.YtnigkecpiolgeaaDoor
