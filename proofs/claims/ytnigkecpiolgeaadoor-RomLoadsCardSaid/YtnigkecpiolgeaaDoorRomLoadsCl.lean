/- RomLoads: the program's memory with an image and its code are the reference's: for every size, and every image of at most 70 segments and 3000 bytes (of others the chapter's examples alone). -/
import Derived.Test.YtnigkecpiolgeaaDoorRomGe
import Derived.Test.YtnigkecpiolgeaaDoorRomGa
import Derived.Laws.MakeOwn
import Derived.Laws.CopyOwn
/- Walk: are two slices of bytes one; are two images one. -/
set_option linter.unusedSimpArgs false
set_option linter.unusedVariables false
namespace Go.Proofs.YtnigkecpiolgeaaDoor.My
open Go.RowKit
theorem bytesS_any (A1 A2 : Option Addr) (c1 c2 : Nat) (l1 l2 : List UInt8) (w : World) (h1 : RdA .u8 w A1 l1.length (ints l1)) (h2 : RdA .u8 w A2 l2.length (ints l2)) (hm1 : l1.length ≤ 9223372036854775807) (hm2 : l2.length ≤ 9223372036854775807) : Calls Tryd.prog 22 #[.slice A1 l1.length c1, .slice A2 l2.length c2] w fun e w' => e = .returned (.bool (decide (l1 = l2))) ∧ Below w.heap.size w w' := by
  have HX := Lib.hid h1
  have HY := Lib.hid h2
  have HB := startB w
  clear h1 h2
  obtain ⟨R, hR⟩ : ∃ R, decide (l1 = l2) = R := ⟨_, rfl⟩
  rw [hR]
  by_cases q : l1.length = l2.length
  · have HR : Hid (decide (l1.drop 0 = l2.drop 0) = R) := Lib.hid hR
    clear hR
    obtain ⟨n2, hn2⟩ : ∃ n, l2.length = n := ⟨_, rfl⟩
    have HN := Lib.hid hn2
    rw [hn2] at HY q hm2 ⊢
    clear hn2
    go_enter Tryd.func22, Tryd.ntmps22
    go_wp2
    go_loopw [5] (fun i wr => ∃ (k : Nat), k ≤ l1.length ∧ i = .int .i64 k ∧ Hid (decide (l1.drop k = l2.drop k) = R) ∧ Hid (RdA .u8 wr A1 l1.length (ints l1)) ∧ Hid (RdA .u8 wr A2 n2 (ints l2)) ∧ Hid (Below w.heap.size w wr ∧ w.heap.size ≤ wr.heap.size)) (fun i _ => l1.length - (intOf i).toNat)
    case atStart => exact ⟨0, Nat.zero_le _, rfl, HR, HX, HY, HB⟩
    case round =>
      clear HX HY HB HR
      obtain ⟨k, hk, rfl, HR, HX, HY, HB⟩ := hrel
      by_cases hlt : k < l1.length
      · have hlt2 : k < n2 := by omega
        obtain ⟨b, off, rfl, hc⟩ := HX.out.2 (by omega)
        obtain ⟨b', off', rfl, hc'⟩ := HY.out.2 (by omega)
        obtain ⟨x, hx⟩ : ∃ x, l1[k]? = some x := ⟨_, List.getElem?_eq_getElem hlt⟩
        obtain ⟨y, hy⟩ : ∃ y, l2[k]? = some y := ⟨_, List.getElem?_eq_getElem (by rw [HN.out]; exact hlt2)⟩
        have e1 := hc k hlt
        have e2 := hc' k hlt2
        rw [el_ints hx] at e1
        rw [el_ints hy] at e2
        have hr := HR.out
        rw [drop_cons hx, drop_cons hy] at hr
        clear hc hc' HR hx hy
        by_cases e : x = y
        · subst e
          have HR : Hid (decide (l1.drop (k + 1) = l2.drop (k + 1)) = R) := Lib.hid (by rw [← hr]; exact decide_eq_decide.2 ⟨fun h => by rw [h], fun h => (List.cons.inj h).2⟩)
          clear hr
          go_wp2
          go_region
          replace HX := Lib.hid (HX.out.drew 1)
          replace HY := Lib.hid (HY.out.drew 1)
          replace HB := keepB1 HB
          go_wp2
          go_roundw
          case rel => exact ⟨k + 1, by omega, by first | trivial | go_num, HR, HX, HY, HB⟩
          case measure => simp [intOf]; omega
        · have hne : ((x.toNat : Int) != (y.toNat : Int)) = true := bne_iff_ne.2 (fun h => e (UInt8.toNat_inj.1 (by omega)))
          have hr' : R = false := by rw [← hr]; exact decide_eq_false (fun h => e (List.cons.inj h).1)
          subst hr'
          clear hr
          go_wp2
          go_region
          replace HB := keepB1 HB
          go_wp2
          go_ret
          exact ⟨rfl, HB.out.1⟩
      · obtain rfl : k = l1.length := by omega
        have hr := HR.out
        have hr' : R = true := by rw [← hr]; exact decide_eq_true (by rw [List.drop_eq_nil_of_le (Nat.le_refl _), List.drop_eq_nil_of_le (by rw [HN.out]; omega)])
        subst hr'
        clear hr
        go_wp2
        go_ret
        exact ⟨rfl, HB.out.1⟩
  · have hr' : R = false := by rw [← hR]; exact decide_eq_false (fun h => q (by rw [h]))
    subst hr'
    have hne : ((l1.length : Int) != (l2.length : Int)) = true := bne_iff_ne.2 (by omega)
    clear hR
    go_enter Tryd.func22, Tryd.ntmps22
    go_wp2
    go_ret
    exact ⟨rfl, HB.out.1⟩
theorem RdSgG.drew {w : World} {A : Option Addr} {ms : List SegM} (h : RdSgG w A ms) (m : Nat) : RdSgG (w.drewN m) A ms := h
theorem cell_below {w w' : World} {a : Addr} {v : Value} (h : w.cell? a = some v) (hb : Below w.heap.size w w') : w'.cell? a = some v := (hb.cell (World.block_lt_of_cell? w _ h)).trans h
set_option maxRecDepth 100000 in
set_option maxHeartbeats 4000000 in
theorem image_any (s1 c1 s2 c2 : Nat) (S1 S2 : Option Addr) (xs ys : List SegM) (w : World) (h1 : RdSgG w S1 xs) (h2 : RdSgG w S2 ys) (hmx : xs.length ≤ 9223372036854775806) (hmy : ys.length ≤ 9223372036854775806) :
    Calls Tryd.prog 17 #[.agg (imA s1 S1 xs.length c1), .agg (imA s2 S2 ys.length c2)] w fun e w' => e = .returned (.bool (decide (s1 = s2 ∧ xs.map SegM.v = ys.map SegM.v))) ∧ Below w.heap.size w w' := by
  have HX := Lib.hid h1
  have HY := Lib.hid h2
  have HB := startB w
  clear h1 h2
  obtain ⟨R, hR⟩ : ∃ R, decide (s1 = s2 ∧ xs.map SegM.v = ys.map SegM.v) = R := ⟨_, rfl⟩
  rw [hR]
  obtain ⟨n2, hn2⟩ : ∃ n, ys.length = n := ⟨_, rfl⟩
  have HN := Lib.hid hn2
  rw [hn2] at hmy ⊢
  clear hn2
  by_cases qs : s1 = s2
  rotate_left
  · have hr' : R = false := by rw [← hR]; exact decide_eq_false (fun h => qs h.1)
    subst hr'
    have hne : ((s1 : Int) != (s2 : Int)) = true := bne_iff_ne.2 (by omega)
    clear hR
    go_enter Tryd.func17, Tryd.ntmps17
    go_wp2_with (first | (refine wlBox ?_ 25 _ rfl (imA s1 S1 xs.length c1) rfl ?_; exact rfl; intro gI w1 hg hl ha hb; replace HX := Lib.hid (HX.out.below hb); replace HY := Lib.hid (HY.out.below hb); replace HB := keepB HB hb; have HI := Lib.hid ha; have i0 : w1.cell? ⟨gI, 0, none⟩ = some (.int .u32 s1) := cellA HI 0; have i1 : w1.cell? ⟨gI, 1, none⟩ = some (.slice S1 xs.length c1) := cellA HI 1; clear ha hb hg hl) | (refine wlBox ?_ 25 _ rfl (imA s2 S2 n2 c2) rfl ?_; exact rfl; intro gJ w2 hg hl ha hb; replace HX := Lib.hid (HX.out.below hb); replace HY := Lib.hid (HY.out.below hb); replace HB := keepB HB hb; replace HI := keepA HI hb; have HJ := Lib.hid ha; have i0 : w2.cell? ⟨gI, 0, none⟩ = some (.int .u32 s1) := cellA HI 0; have i1 : w2.cell? ⟨gI, 1, none⟩ = some (.slice S1 xs.length c1) := cellA HI 1; have j0 : w2.cell? ⟨gJ, 0, none⟩ = some (.int .u32 s2) := cellA HJ 0; have j1 : w2.cell? ⟨gJ, 1, none⟩ = some (.slice S2 n2 c2) := cellA HJ 1; clear ha hb hg hl))
    go_ret
    exact ⟨rfl, HB.out.1⟩
  subst qs
  by_cases q : xs.length = n2
  rotate_left
  · have hr' : R = false := by rw [← hR]; exact decide_eq_false (fun h => q (by have := congrArg List.length h.2; rw [List.length_map, List.length_map, HN.out] at this; exact this))
    subst hr'
    have hne : ((xs.length : Int) != (n2 : Int)) = true := bne_iff_ne.2 (by omega)
    clear hR
    go_enter Tryd.func17, Tryd.ntmps17
    go_wp2_with (first | (refine wlBox ?_ 25 _ rfl (imA s1 S1 xs.length c1) rfl ?_; exact rfl; intro gI w1 hg hl ha hb; replace HX := Lib.hid (HX.out.below hb); replace HY := Lib.hid (HY.out.below hb); replace HB := keepB HB hb; have HI := Lib.hid ha; have i0 : w1.cell? ⟨gI, 0, none⟩ = some (.int .u32 s1) := cellA HI 0; have i1 : w1.cell? ⟨gI, 1, none⟩ = some (.slice S1 xs.length c1) := cellA HI 1; clear ha hb hg hl) | (refine wlBox ?_ 25 _ rfl (imA s1 S2 n2 c2) rfl ?_; exact rfl; intro gJ w2 hg hl ha hb; replace HX := Lib.hid (HX.out.below hb); replace HY := Lib.hid (HY.out.below hb); replace HB := keepB HB hb; replace HI := keepA HI hb; have HJ := Lib.hid ha; have i0 : w2.cell? ⟨gI, 0, none⟩ = some (.int .u32 s1) := cellA HI 0; have i1 : w2.cell? ⟨gI, 1, none⟩ = some (.slice S1 xs.length c1) := cellA HI 1; have j0 : w2.cell? ⟨gJ, 0, none⟩ = some (.int .u32 s1) := cellA HJ 0; have j1 : w2.cell? ⟨gJ, 1, none⟩ = some (.slice S2 n2 c2) := cellA HJ 1; clear ha hb hg hl))
    go_ret
    exact ⟨rfl, HB.out.1⟩
  subst q
  have HR : Hid (decide ((xs.drop 0).map SegM.v = (ys.drop 0).map SegM.v) = R) := Lib.hid (by rw [← hR]; exact decide_eq_decide.2 ⟨fun h => ⟨rfl, h⟩, fun h => h.2⟩)
  clear hR
  go_enter Tryd.func17, Tryd.ntmps17
  go_wp2_with (first | (refine wlBox ?_ 25 _ rfl (imA s1 S1 xs.length c1) rfl ?_; exact rfl; intro gI w1 hg hl ha hb; replace HX := Lib.hid (HX.out.below hb); replace HY := Lib.hid (HY.out.below hb); replace HB := keepB HB hb; have HI := Lib.hid ha; have i0 : w1.cell? ⟨gI, 0, none⟩ = some (.int .u32 s1) := cellA HI 0; have i1 : w1.cell? ⟨gI, 1, none⟩ = some (.slice S1 xs.length c1) := cellA HI 1; clear ha hb hg hl) | (refine wlBox ?_ 25 _ rfl (imA s1 S2 xs.length c2) rfl ?_; exact rfl; intro gJ w2 hg hl ha hb; replace HX := Lib.hid (HX.out.below hb); replace HY := Lib.hid (HY.out.below hb); replace HB := keepB HB hb; replace HI := keepA HI hb; have HJ := Lib.hid ha; have i0 : w2.cell? ⟨gI, 0, none⟩ = some (.int .u32 s1) := cellA HI 0; have i1 : w2.cell? ⟨gI, 1, none⟩ = some (.slice S1 xs.length c1) := cellA HI 1; have j0 : w2.cell? ⟨gJ, 0, none⟩ = some (.int .u32 s1) := cellA HJ 0; have j1 : w2.cell? ⟨gJ, 1, none⟩ = some (.slice S2 xs.length c2) := cellA HJ 1; clear ha hb hg hl))
  clear i0 i1 j0 j1
  go_loopw [5] (fun i wr => ∃ (k : Nat), k ≤ xs.length ∧ i = .int .i64 k ∧ Hid (decide ((xs.drop k).map SegM.v = (ys.drop k).map SegM.v) = R) ∧ Hid (RdSgG wr S1 xs) ∧ Hid (RdSgG wr S2 ys) ∧ Hid (wr.heap[gI]? = some (.cells (imA s1 S1 xs.length c1) 25 (0, 0))) ∧ Hid (wr.heap[gJ]? = some (.cells (imA s1 S2 xs.length c2) 25 (0, 0))) ∧ Hid (Below w.heap.size w wr ∧ w.heap.size ≤ wr.heap.size)) (fun i _ => xs.length - (intOf i).toNat)
  case atStart => exact ⟨0, Nat.zero_le _, by first | trivial | rfl, HR, HX, HY, HI, HJ, HB⟩
  case round =>
    clear HX HY HB HR HI HJ
    obtain ⟨k, hk, rfl, HR, HX, HY, HI, HJ, HB⟩ := hrel
    have i1 : wr.cell? ⟨gI, 1, none⟩ = some (.slice S1 xs.length c1) := cellA HI 1
    have j1 : wr.cell? ⟨gJ, 1, none⟩ = some (.slice S2 xs.length c2) := cellA HJ 1
    by_cases hlt : k < xs.length
    · have hlt2 : k < xs.length := by omega
      obtain ⟨x, hx⟩ : ∃ m, xs[k]? = some m := ⟨_, List.getElem?_eq_getElem hlt⟩
      obtain ⟨y, hy⟩ : ∃ m, ys[k]? = some m := ⟨_, List.getElem?_eq_getElem (by rw [HN.out]; exact hlt2)⟩
      obtain ⟨b1, o1, rfl, _, hc1⟩ := HX.out.1.2.2 (by omega)
      obtain ⟨b2, o2, rfl, _, hc2⟩ := HY.out.1.2.2 (by rw [HN.out]; omega)
      obtain ⟨_, mx, _, hrx⟩ := HX.out.2 x (List.mem_of_getElem? hx)
      obtain ⟨_, my, _, hry⟩ := HY.out.2 y (List.mem_of_getElem? hy)
      have HS : Hid ((fun w' => w'.cell? ⟨gI, 1, none⟩ = some (.slice (some ⟨b1, o1, none⟩) xs.length c1) ∧ w'.cell? ⟨gJ, 1, none⟩ = some (.slice (some ⟨b2, o2, none⟩) xs.length c2) ∧ w'.cell? ⟨b1, o1 + k * 2, none⟩ = some (.int .u32 x.at_) ∧ w'.cell? ⟨b1, o1 + k * 2 + 1, none⟩ = some (.slice x.D x.d.length x.c) ∧ w'.cell? ⟨b2, o2 + k * 2, none⟩ = some (.int .u32 y.at_) ∧ w'.cell? ⟨b2, o2 + k * 2 + 1, none⟩ = some (.slice y.D y.d.length y.c)) wr) := Lib.hid ⟨i1, j1, hc1 k (sA x) (sA_get hx) 0 _ rfl, hc1 k (sA x) (sA_get hx) 1 _ rfl, hc2 k (sA y) (sA_get hy) 0 _ rfl, hc2 k (sA y) (sA_get hy) 1 _ rfl⟩
      have hr := HR.out
      rw [drop_cons hx, drop_cons hy, List.map_cons, List.map_cons] at hr
      have HRX := Lib.hid (hrx.drew 1)
      have HRY := Lib.hid (hry.drew 1)
      replace mx : x.d.length ≤ 9223372036854775807 := mx
      replace my : y.d.length ≤ 9223372036854775807 := my
      have ex : x.v = y.v ↔ x.at_ = y.at_ ∧ x.d = y.d := (segV_iff x.v y.v).symm
      clear hc1 hc2 hx hy hrx hry HR
      by_cases qa : x.at_ = y.at_
      · obtain ⟨bd, hbd⟩ : ∃ b, decide (x.d = y.d) = b := ⟨_, rfl⟩
        have HBD := Lib.hid hbd
        have HRR := Lib.hid hr
        have HEX := Lib.hid ex
        clear hbd hr ex
        have hne : ((x.at_ : Int) != (y.at_ : Int)) = false := by rw [qa]; simp
        have HQA := Lib.hid qa
        clear qa
        go_wp2
        clear i1 j1
        replace HX := Lib.hid (HX.out.drew 1)
        replace HY := Lib.hid (HY.out.drew 1)
        replace HB := keepB1 HB
        replace HI := keepA1 HI
        replace HJ := keepA1 HJ
        replace HS : Hid ((fun w' => w'.cell? ⟨gI, 1, none⟩ = some (.slice (some ⟨b1, o1, none⟩) xs.length c1) ∧ w'.cell? ⟨gJ, 1, none⟩ = some (.slice (some ⟨b2, o2, none⟩) xs.length c2) ∧ w'.cell? ⟨b1, o1 + k * 2, none⟩ = some (.int .u32 x.at_) ∧ w'.cell? ⟨b1, o1 + k * 2 + 1, none⟩ = some (.slice x.D x.d.length x.c) ∧ w'.cell? ⟨b2, o2 + k * 2, none⟩ = some (.int .u32 y.at_) ∧ w'.cell? ⟨b2, o2 + k * 2 + 1, none⟩ = some (.slice y.D y.d.length y.c)) (wr.drewN 1)) := Lib.hid HS.out
        refine rgStart (S := (fun w' => w'.cell? ⟨gI, 1, none⟩ = some (.slice (some ⟨b1, o1, none⟩) xs.length c1) ∧ w'.cell? ⟨gJ, 1, none⟩ = some (.slice (some ⟨b2, o2, none⟩) xs.length c2) ∧ w'.cell? ⟨b1, o1 + k * 2, none⟩ = some (.int .u32 x.at_) ∧ w'.cell? ⟨b1, o1 + k * 2 + 1, none⟩ = some (.slice x.D x.d.length x.c) ∧ w'.cell? ⟨b2, o2 + k * 2, none⟩ = some (.int .u32 y.at_) ∧ w'.cell? ⟨b2, o2 + k * 2 + 1, none⟩ = some (.slice y.D y.d.length y.c))) (n := 29) #[false, false, false, false, false, false, false, false, false, false, false, false, false, false, false, false, false, false, false, false, false, false, false, false, false, false, false, false, false] (by kernel_rfl) rfl rfl HS.out (fun hHeld => ?_)
        refine rgTake (i := 0) (N := some 34) (oi := { dst := some 34, op := Op.fieldAddr 25 (Operand.tmp 2) 1, type := 0, pos := "same.go:303", after := #[], guard := none }) (v := ?_) #[true, false, false, false, false, false, false, false, false, false, false, false, false, false, false, false, false, false, false, false, false, false, false, false, false, false, false, false, false] rfl rfl (by kernel_rfl) (fun _ _ _ h => h) (Or.inl ⟨by rfl, ?_⟩) hHeld ?_
        rotate_left
        · intro w' hSw; (try dsimp only at hSw); (obtain ⟨k1, k2, k3, k4, k5, k6⟩ := hSw); go_simp; try with_reducible rfl
        simp only [Act.put, List.setIfInBounds_toArray, List.set_cons_zero, List.set_cons_succ]
        refine rgTake (i := 1) (N := some 35) (oi := { dst := some 35, op := Op.load 23 (Operand.tmp 34), type := 23, pos := "same.go:303", after := #[{ on := 0, ground := Ground.data }], guard := none }) (v := ?_) #[true, true, false, false, false, false, false, false, false, false, false, false, false, false, false, false, false, false, false, false, false, false, false, false, false, false, false, false, false] rfl rfl (by kernel_rfl) (fun _ _ _ h => h) (Or.inl ⟨by rfl, ?_⟩) hHeld ?_
        rotate_left
        · intro w' hSw; (try dsimp only at hSw); (obtain ⟨k1, k2, k3, k4, k5, k6⟩ := hSw); go_simp; try with_reducible rfl
        simp only [Act.put, List.setIfInBounds_toArray, List.set_cons_zero, List.set_cons_succ]
        refine rgTake (i := 2) (N := some 36) (oi := { dst := some 36, op := Op.move (Operand.tmp 5), type := 3, pos := "same.go:303", after := #[], guard := none }) (v := ?_) #[true, true, true, false, false, false, false, false, false, false, false, false, false, false, false, false, false, false, false, false, false, false, false, false, false, false, false, false, false] rfl rfl (by kernel_rfl) (fun _ _ _ h => h) (Or.inl ⟨by rfl, ?_⟩) hHeld ?_
        rotate_left
        · intro w' hSw; (try dsimp only at hSw); (obtain ⟨k1, k2, k3, k4, k5, k6⟩ := hSw); go_simp; try with_reducible rfl
        simp only [Act.put, List.setIfInBounds_toArray, List.set_cons_zero, List.set_cons_succ]
        refine rgTake (i := 3) (N := some 37) (oi := { dst := some 37, op := Op.indexAddr 23 (Operand.tmp 35) (Operand.tmp 36), type := 0, pos := "same.go:303", after := #[{ on := 1, ground := Ground.data }, { on := 2, ground := Ground.data }], guard := none }) (v := _) #[true, true, true, true, false, false, false, false, false, false, false, false, false, false, false, false, false, false, false, false, false, false, false, false, false, false, false, false, false] rfl rfl (by kernel_rfl) (fun _ _ _ h => h) (yieldsIdx (by rfl) 23 _ _ rfl 51 2 Tryd.underlying23 sizeSeg b1 o1 xs.length c1 k rfl rfl hlt) hHeld ?_
        simp only [Act.put, List.setIfInBounds_toArray, List.set_cons_zero, List.set_cons_succ]
        refine rgTake (i := 4) (N := some 38) (oi := { dst := some 38, op := Op.fieldAddr 51 (Operand.tmp 37) 0, type := 0, pos := "same.go:303", after := #[{ on := 3, ground := Ground.data }], guard := none }) (v := ?_) #[true, true, true, true, true, false, false, false, false, false, false, false, false, false, false, false, false, false, false, false, false, false, false, false, false, false, false, false, false] rfl rfl (by kernel_rfl) (fun _ _ _ h => h) (Or.inl ⟨by rfl, ?_⟩) hHeld ?_
        rotate_left
        · intro w' hSw; (try dsimp only at hSw); (obtain ⟨k1, k2, k3, k4, k5, k6⟩ := hSw); go_simp; try with_reducible rfl
        simp only [Act.put, List.setIfInBounds_toArray, List.set_cons_zero, List.set_cons_succ]
        refine rgTake (i := 5) (N := some 39) (oi := { dst := some 39, op := Op.load 22 (Operand.tmp 38), type := 22, pos := "same.go:303", after := #[{ on := 4, ground := Ground.data }], guard := none }) (v := ?_) #[true, true, true, true, true, true, false, false, false, false, false, false, false, false, false, false, false, false, false, false, false, false, false, false, false, false, false, false, false] rfl rfl (by kernel_rfl) (fun _ _ _ h => h) (Or.inl ⟨by rfl, ?_⟩) hHeld ?_
        rotate_left
        · intro w' hSw; (try dsimp only at hSw); (obtain ⟨k1, k2, k3, k4, k5, k6⟩ := hSw); go_simp; try with_reducible rfl
        simp only [Act.put, List.setIfInBounds_toArray, List.set_cons_zero, List.set_cons_succ]
        refine rgTake (i := 6) (N := some 40) (oi := { dst := some 40, op := Op.fieldAddr 25 (Operand.tmp 3) 1, type := 0, pos := "same.go:303", after := #[], guard := none }) (v := ?_) #[true, true, true, true, true, true, true, false, false, false, false, false, false, false, false, false, false, false, false, false, false, false, false, false, false, false, false, false, false] rfl rfl (by kernel_rfl) (fun _ _ _ h => h) (Or.inl ⟨by rfl, ?_⟩) hHeld ?_
        rotate_left
        · intro w' hSw; (try dsimp only at hSw); (obtain ⟨k1, k2, k3, k4, k5, k6⟩ := hSw); go_simp; try with_reducible rfl
        simp only [Act.put, List.setIfInBounds_toArray, List.set_cons_zero, List.set_cons_succ]
        refine rgTake (i := 7) (N := some 41) (oi := { dst := some 41, op := Op.load 23 (Operand.tmp 40), type := 23, pos := "same.go:303", after := #[{ on := 6, ground := Ground.data }], guard := none }) (v := ?_) #[true, true, true, true, true, true, true, true, false, false, false, false, false, false, false, false, false, false, false, false, false, false, false, false, false, false, false, false, false] rfl rfl (by kernel_rfl) (fun _ _ _ h => h) (Or.inl ⟨by rfl, ?_⟩) hHeld ?_
        rotate_left
        · intro w' hSw; (try dsimp only at hSw); (obtain ⟨k1, k2, k3, k4, k5, k6⟩ := hSw); go_simp; try with_reducible rfl
        simp only [Act.put, List.setIfInBounds_toArray, List.set_cons_zero, List.set_cons_succ]
        refine rgTake (i := 8) (N := some 42) (oi := { dst := some 42, op := Op.move (Operand.tmp 5), type := 3, pos := "same.go:303", after := #[], guard := none }) (v := ?_) #[true, true, true, true, true, true, true, true, true, false, false, false, false, false, false, false, false, false, false, false, false, false, false, false, false, false, false, false, false] rfl rfl (by kernel_rfl) (fun _ _ _ h => h) (Or.inl ⟨by rfl, ?_⟩) hHeld ?_
        rotate_left
        · intro w' hSw; (try dsimp only at hSw); (obtain ⟨k1, k2, k3, k4, k5, k6⟩ := hSw); go_simp; try with_reducible rfl
        simp only [Act.put, List.setIfInBounds_toArray, List.set_cons_zero, List.set_cons_succ]
        refine rgTake (i := 9) (N := some 43) (oi := { dst := some 43, op := Op.indexAddr 23 (Operand.tmp 41) (Operand.tmp 42), type := 0, pos := "same.go:303", after := #[{ on := 7, ground := Ground.data }, { on := 8, ground := Ground.data }], guard := none }) (v := _) #[true, true, true, true, true, true, true, true, true, true, false, false, false, false, false, false, false, false, false, false, false, false, false, false, false, false, false, false, false] rfl rfl (by kernel_rfl) (fun _ _ _ h => h) (yieldsIdx (by rfl) 23 _ _ rfl 51 2 Tryd.underlying23 sizeSeg b2 o2 xs.length c2 k rfl rfl hlt2) hHeld ?_
        simp only [Act.put, List.setIfInBounds_toArray, List.set_cons_zero, List.set_cons_succ]
        refine rgTake (i := 10) (N := some 44) (oi := { dst := some 44, op := Op.fieldAddr 51 (Operand.tmp 43) 0, type := 0, pos := "same.go:303", after := #[{ on := 9, ground := Ground.data }], guard := none }) (v := ?_) #[true, true, true, true, true, true, true, true, true, true, true, false, false, false, false, false, false, false, false, false, false, false, false, false, false, false, false, false, false] rfl rfl (by kernel_rfl) (fun _ _ _ h => h) (Or.inl ⟨by rfl, ?_⟩) hHeld ?_
        rotate_left
        · intro w' hSw; (try dsimp only at hSw); (obtain ⟨k1, k2, k3, k4, k5, k6⟩ := hSw); go_simp; try with_reducible rfl
        simp only [Act.put, List.setIfInBounds_toArray, List.set_cons_zero, List.set_cons_succ]
        refine rgTake (i := 11) (N := some 45) (oi := { dst := some 45, op := Op.load 22 (Operand.tmp 44), type := 22, pos := "same.go:303", after := #[{ on := 10, ground := Ground.data }], guard := none }) (v := ?_) #[true, true, true, true, true, true, true, true, true, true, true, true, false, false, false, false, false, false, false, false, false, false, false, false, false, false, false, false, false] rfl rfl (by kernel_rfl) (fun _ _ _ h => h) (Or.inl ⟨by rfl, ?_⟩) hHeld ?_
        rotate_left
        · intro w' hSw; (try dsimp only at hSw); (obtain ⟨k1, k2, k3, k4, k5, k6⟩ := hSw); go_simp; try with_reducible rfl
        simp only [Act.put, List.setIfInBounds_toArray, List.set_cons_zero, List.set_cons_succ]
        refine rgTake (i := 12) (N := some 46) (oi := { dst := some 46, op := Op.binOp BinOp.neq 22 (Operand.tmp 39) (Operand.tmp 45) 22, type := 4, pos := "same.go:303", after := #[{ on := 5, ground := Ground.data }, { on := 11, ground := Ground.data }], guard := none }) (v := ?_) #[true, true, true, true, true, true, true, true, true, true, true, true, true, false, false, false, false, false, false, false, false, false, false, false, false, false, false, false, false] rfl rfl (by kernel_rfl) (fun _ _ _ h => h) (Or.inl ⟨by rfl, ?_⟩) hHeld ?_
        rotate_left
        · intro w' hSw; (try dsimp only at hSw); (obtain ⟨k1, k2, k3, k4, k5, k6⟩ := hSw); go_simp; try with_reducible rfl
        simp only [Act.put, List.setIfInBounds_toArray, List.set_cons_zero, List.set_cons_succ]
        refine rgTake (i := 13) (N := some 47) (oi := { dst := some 47, op := Op.move (Operand.tmp 46), type := 4, pos := "same.go:303", after := #[{ on := 12, ground := Ground.data }], guard := none }) (v := ?_) #[true, true, true, true, true, true, true, true, true, true, true, true, true, true, false, false, false, false, false, false, false, false, false, false, false, false, false, false, false] rfl rfl (by kernel_rfl) (fun _ _ _ h => h) (Or.inl ⟨by rfl, ?_⟩) hHeld ?_
        rotate_left
        · intro w' hSw; (try dsimp only at hSw); (obtain ⟨k1, k2, k3, k4, k5, k6⟩ := hSw); go_simp; try with_reducible rfl
        simp only [Act.put, List.setIfInBounds_toArray, List.set_cons_zero, List.set_cons_succ]
        refine rgTake (i := 14) (N := some 48) (oi := { dst := some 48, op := Op.fieldAddr 25 (Operand.tmp 2) 1, type := 0, pos := "same.go:303", after := #[{ on := 13, ground := Ground.guard }], guard := some (13, false) }) (v := ?_) #[true, true, true, true, true, true, true, true, true, true, true, true, true, true, true, false, false, false, false, false, false, false, false, false, false, false, false, false, false] rfl rfl (by kernel_rfl) (fun _ _ _ h => h) (Or.inl ⟨by rfl, ?_⟩) hHeld ?_
        rotate_left
        · intro w' hSw; (try dsimp only at hSw); (obtain ⟨k1, k2, k3, k4, k5, k6⟩ := hSw); go_simp; try with_reducible rfl
        simp only [Act.put, List.setIfInBounds_toArray, List.set_cons_zero, List.set_cons_succ]
        refine rgTake (i := 15) (N := some 49) (oi := { dst := some 49, op := Op.load 23 (Operand.tmp 48), type := 23, pos := "same.go:303", after := #[{ on := 14, ground := Ground.data }, { on := 13, ground := Ground.guard }], guard := some (13, false) }) (v := ?_) #[true, true, true, true, true, true, true, true, true, true, true, true, true, true, true, true, false, false, false, false, false, false, false, false, false, false, false, false, false] rfl rfl (by kernel_rfl) (fun _ _ _ h => h) (Or.inl ⟨by rfl, ?_⟩) hHeld ?_
        rotate_left
        · intro w' hSw; (try dsimp only at hSw); (obtain ⟨k1, k2, k3, k4, k5, k6⟩ := hSw); go_simp; try with_reducible rfl
        simp only [Act.put, List.setIfInBounds_toArray, List.set_cons_zero, List.set_cons_succ]
        refine rgTake (i := 16) (N := some 50) (oi := { dst := some 50, op := Op.move (Operand.tmp 5), type := 3, pos := "same.go:303", after := #[{ on := 13, ground := Ground.guard }], guard := some (13, false) }) (v := ?_) #[true, true, true, true, true, true, true, true, true, true, true, true, true, true, true, true, true, false, false, false, false, false, false, false, false, false, false, false, false] rfl rfl (by kernel_rfl) (fun _ _ _ h => h) (Or.inl ⟨by rfl, ?_⟩) hHeld ?_
        rotate_left
        · intro w' hSw; (try dsimp only at hSw); (obtain ⟨k1, k2, k3, k4, k5, k6⟩ := hSw); go_simp; try with_reducible rfl
        simp only [Act.put, List.setIfInBounds_toArray, List.set_cons_zero, List.set_cons_succ]
        refine rgTake (i := 17) (N := some 51) (oi := { dst := some 51, op := Op.indexAddr 23 (Operand.tmp 49) (Operand.tmp 50), type := 0, pos := "same.go:303", after := #[{ on := 15, ground := Ground.data }, { on := 16, ground := Ground.data }, { on := 13, ground := Ground.guard }], guard := some (13, false) }) (v := _) #[true, true, true, true, true, true, true, true, true, true, true, true, true, true, true, true, true, true, false, false, false, false, false, false, false, false, false, false, false] rfl rfl (by kernel_rfl) (fun _ _ _ h => h) (yieldsIdx (by rfl) 23 _ _ rfl 51 2 Tryd.underlying23 sizeSeg b1 o1 xs.length c1 k rfl rfl hlt) hHeld ?_
        simp only [Act.put, List.setIfInBounds_toArray, List.set_cons_zero, List.set_cons_succ]
        refine rgTake (i := 18) (N := some 52) (oi := { dst := some 52, op := Op.fieldAddr 51 (Operand.tmp 51) 1, type := 0, pos := "same.go:303", after := #[{ on := 17, ground := Ground.data }, { on := 13, ground := Ground.guard }], guard := some (13, false) }) (v := ?_) #[true, true, true, true, true, true, true, true, true, true, true, true, true, true, true, true, true, true, true, false, false, false, false, false, false, false, false, false, false] rfl rfl (by kernel_rfl) (fun _ _ _ h => h) (Or.inl ⟨by rfl, ?_⟩) hHeld ?_
        rotate_left
        · intro w' hSw; (try dsimp only at hSw); (obtain ⟨k1, k2, k3, k4, k5, k6⟩ := hSw); go_simp; try with_reducible rfl
        simp only [Act.put, List.setIfInBounds_toArray, List.set_cons_zero, List.set_cons_succ]
        refine rgTake (i := 19) (N := some 53) (oi := { dst := some 53, op := Op.load 26 (Operand.tmp 52), type := 26, pos := "same.go:303", after := #[{ on := 18, ground := Ground.data }, { on := 13, ground := Ground.guard }], guard := some (13, false) }) (v := ?_) #[true, true, true, true, true, true, true, true, true, true, true, true, true, true, true, true, true, true, true, true, false, false, false, false, false, false, false, false, false] rfl rfl (by kernel_rfl) (fun _ _ _ h => h) (Or.inl ⟨by rfl, ?_⟩) hHeld ?_
        rotate_left
        · intro w' hSw; (try dsimp only at hSw); (obtain ⟨k1, k2, k3, k4, k5, k6⟩ := hSw); go_simp; try with_reducible rfl
        simp only [Act.put, List.setIfInBounds_toArray, List.set_cons_zero, List.set_cons_succ]
        refine rgTake (i := 20) (N := some 54) (oi := { dst := some 54, op := Op.fieldAddr 25 (Operand.tmp 3) 1, type := 0, pos := "same.go:303", after := #[{ on := 13, ground := Ground.guard }], guard := some (13, false) }) (v := ?_) #[true, true, true, true, true, true, true, true, true, true, true, true, true, true, true, true, true, true, true, true, true, false, false, false, false, false, false, false, false] rfl rfl (by kernel_rfl) (fun _ _ _ h => h) (Or.inl ⟨by rfl, ?_⟩) hHeld ?_
        rotate_left
        · intro w' hSw; (try dsimp only at hSw); (obtain ⟨k1, k2, k3, k4, k5, k6⟩ := hSw); go_simp; try with_reducible rfl
        simp only [Act.put, List.setIfInBounds_toArray, List.set_cons_zero, List.set_cons_succ]
        refine rgTake (i := 21) (N := some 55) (oi := { dst := some 55, op := Op.load 23 (Operand.tmp 54), type := 23, pos := "same.go:303", after := #[{ on := 20, ground := Ground.data }, { on := 13, ground := Ground.guard }], guard := some (13, false) }) (v := ?_) #[true, true, true, true, true, true, true, true, true, true, true, true, true, true, true, true, true, true, true, true, true, true, false, false, false, false, false, false, false] rfl rfl (by kernel_rfl) (fun _ _ _ h => h) (Or.inl ⟨by rfl, ?_⟩) hHeld ?_
        rotate_left
        · intro w' hSw; (try dsimp only at hSw); (obtain ⟨k1, k2, k3, k4, k5, k6⟩ := hSw); go_simp; try with_reducible rfl
        simp only [Act.put, List.setIfInBounds_toArray, List.set_cons_zero, List.set_cons_succ]
        refine rgTake (i := 22) (N := some 56) (oi := { dst := some 56, op := Op.move (Operand.tmp 5), type := 3, pos := "same.go:303", after := #[{ on := 13, ground := Ground.guard }], guard := some (13, false) }) (v := ?_) #[true, true, true, true, true, true, true, true, true, true, true, true, true, true, true, true, true, true, true, true, true, true, true, false, false, false, false, false, false] rfl rfl (by kernel_rfl) (fun _ _ _ h => h) (Or.inl ⟨by rfl, ?_⟩) hHeld ?_
        rotate_left
        · intro w' hSw; (try dsimp only at hSw); (obtain ⟨k1, k2, k3, k4, k5, k6⟩ := hSw); go_simp; try with_reducible rfl
        simp only [Act.put, List.setIfInBounds_toArray, List.set_cons_zero, List.set_cons_succ]
        refine rgTake (i := 23) (N := some 57) (oi := { dst := some 57, op := Op.indexAddr 23 (Operand.tmp 55) (Operand.tmp 56), type := 0, pos := "same.go:303", after := #[{ on := 21, ground := Ground.data }, { on := 22, ground := Ground.data }, { on := 13, ground := Ground.guard }], guard := some (13, false) }) (v := _) #[true, true, true, true, true, true, true, true, true, true, true, true, true, true, true, true, true, true, true, true, true, true, true, true, false, false, false, false, false] rfl rfl (by kernel_rfl) (fun _ _ _ h => h) (yieldsIdx (by rfl) 23 _ _ rfl 51 2 Tryd.underlying23 sizeSeg b2 o2 xs.length c2 k rfl rfl hlt2) hHeld ?_
        simp only [Act.put, List.setIfInBounds_toArray, List.set_cons_zero, List.set_cons_succ]
        refine rgTake (i := 24) (N := some 58) (oi := { dst := some 58, op := Op.fieldAddr 51 (Operand.tmp 57) 1, type := 0, pos := "same.go:303", after := #[{ on := 23, ground := Ground.data }, { on := 13, ground := Ground.guard }], guard := some (13, false) }) (v := ?_) #[true, true, true, true, true, true, true, true, true, true, true, true, true, true, true, true, true, true, true, true, true, true, true, true, true, false, false, false, false] rfl rfl (by kernel_rfl) (fun _ _ _ h => h) (Or.inl ⟨by rfl, ?_⟩) hHeld ?_
        rotate_left
        · intro w' hSw; (try dsimp only at hSw); (obtain ⟨k1, k2, k3, k4, k5, k6⟩ := hSw); go_simp; try with_reducible rfl
        simp only [Act.put, List.setIfInBounds_toArray, List.set_cons_zero, List.set_cons_succ]
        refine rgTake (i := 25) (N := some 59) (oi := { dst := some 59, op := Op.load 26 (Operand.tmp 58), type := 26, pos := "same.go:303", after := #[{ on := 24, ground := Ground.data }, { on := 13, ground := Ground.guard }], guard := some (13, false) }) (v := ?_) #[true, true, true, true, true, true, true, true, true, true, true, true, true, true, true, true, true, true, true, true, true, true, true, true, true, true, false, false, false] rfl rfl (by kernel_rfl) (fun _ _ _ h => h) (Or.inl ⟨by rfl, ?_⟩) hHeld ?_
        rotate_left
        · intro w' hSw; (try dsimp only at hSw); (obtain ⟨k1, k2, k3, k4, k5, k6⟩ := hSw); go_simp; try with_reducible rfl
        simp only [Act.put, List.setIfInBounds_toArray, List.set_cons_zero, List.set_cons_succ]
        refine rgCall (i := 26) (N := some 60) (oi := { dst := some 60, op := Op.call { callee := Callee.value (Operand.func 22), args := #[Operand.tmp 53, Operand.tmp 59], argTypes := #[26, 26] }, type := 4, pos := "same.go:303", after := #[{ on := 19, ground := Ground.data }, { on := 25, ground := Ground.data }, { on := 13, ground := Ground.chain }, { on := 13, ground := Ground.guard }], guard := some (13, false) }) #[true, true, true, true, true, true, true, true, true, true, true, true, true, true, true, true, true, true, true, true, true, true, true, true, true, true, true, false, false] rfl rfl (by kernel_rfl) (fun K hK => ?_)
        go_simp
        (go_at_call 22; refine (bytesS_any x.D y.D x.c y.c x.d y.d _ HRX.out HRY.out mx my).mono ?_; rw [HBD.out]; rintro e w3 ⟨rfl, hb⟩; replace HX := Lib.hid (HX.out.below hb); replace HY := Lib.hid (HY.out.below hb); replace HB := keepB HB hb; replace HI := keepA HI hb; replace HJ := keepA HJ hb; replace HS : Hid ((fun w' => w'.cell? ⟨gI, 1, none⟩ = some (.slice (some ⟨b1, o1, none⟩) xs.length c1) ∧ w'.cell? ⟨gJ, 1, none⟩ = some (.slice (some ⟨b2, o2, none⟩) xs.length c2) ∧ w'.cell? ⟨b1, o1 + k * 2, none⟩ = some (.int .u32 x.at_) ∧ w'.cell? ⟨b1, o1 + k * 2 + 1, none⟩ = some (.slice x.D x.d.length x.c) ∧ w'.cell? ⟨b2, o2 + k * 2, none⟩ = some (.int .u32 y.at_) ∧ w'.cell? ⟨b2, o2 + k * 2 + 1, none⟩ = some (.slice y.D y.d.length y.c)) w3) := Lib.hid ⟨cell_below HS.out.1 hb, cell_below HS.out.2.1 hb, cell_below HS.out.2.2.1 hb, cell_below HS.out.2.2.2.1 hb, cell_below HS.out.2.2.2.2.1 hb, cell_below HS.out.2.2.2.2.2 hb⟩; clear hb HRX HRY)
        refine hK.out _ _ HS.out (fun hHeld => ?_)
        (try simp only [Act.put, List.setIfInBounds_toArray, List.set_cons_zero, List.set_cons_succ])
        clear hK K
        refine rgTake (i := 27) (N := some 61) (oi := { dst := some 61, op := Op.unOp UnOp.not 4 (Operand.tmp 60), type := 4, pos := "same.go:303", after := #[{ on := 26, ground := Ground.data }, { on := 13, ground := Ground.guard }], guard := some (13, false) }) (v := ?_) #[true, true, true, true, true, true, true, true, true, true, true, true, true, true, true, true, true, true, true, true, true, true, true, true, true, true, true, true, false] rfl rfl (by kernel_rfl) (fun _ _ _ h => h) (Or.inl ⟨by rfl, ?_⟩) hHeld ?_
        rotate_left
        · intro w' hSw; (try dsimp only at hSw); (obtain ⟨k1, k2, k3, k4, k5, k6⟩ := hSw); go_simp; try with_reducible rfl
        simp only [Act.put, List.setIfInBounds_toArray, List.set_cons_zero, List.set_cons_succ]
        refine rgTake (i := 28) (N := some 62) (oi := { dst := some 62, op := Op.pick (Operand.tmp 47) (Operand.const (Value.bool true)) (Operand.tmp 61), type := 4, pos := "same.go:303", after := #[{ on := 13, ground := Ground.data }, { on := 27, ground := Ground.data }], guard := none }) (v := ?_) #[true, true, true, true, true, true, true, true, true, true, true, true, true, true, true, true, true, true, true, true, true, true, true, true, true, true, true, true, true] rfl rfl (by kernel_rfl) (fun _ _ _ h => h) (Or.inl ⟨by rfl, ?_⟩) hHeld ?_
        rotate_left
        · intro w' hSw; (try dsimp only at hSw); (obtain ⟨k1, k2, k3, k4, k5, k6⟩ := hSw); go_simp; try with_reducible rfl
        simp only [Act.put, List.setIfInBounds_toArray, List.set_cons_zero, List.set_cons_succ]
        refine rgDone (by kernel_rfl) ?_ _
        cases bd with
        | true =>
          have HR : Hid (decide ((xs.drop (k + 1)).map SegM.v = (ys.drop (k + 1)).map SegM.v) = R) := Lib.hid (by rw [← HRR.out]; exact decide_eq_decide.2 ⟨fun h => by rw [HEX.out.2 ⟨HQA.out, of_decide_eq_true HBD.out⟩, h], fun h => (List.cons.inj h).2⟩)
          clear HRR HEX HQA HBD
          go_wp2
          go_roundw
          case rel => exact ⟨k + 1, by omega, by first | trivial | go_num, HR, HX, HY, HI, HJ, HB⟩
          case measure => simp [intOf]; omega
        | false =>
          have hr' : R = false := by rw [← HRR.out]; exact decide_eq_false (fun h => absurd ((HEX.out.1 (List.cons.inj h).1).2) (of_decide_eq_false HBD.out))
          subst hr'
          go_wp2
          go_ret
          exact ⟨rfl, HB.out.1⟩
      · have hr' : R = false := by rw [← hr]; exact decide_eq_false (fun h => qa (ex.1 (List.cons.inj h).1).1)
        subst hr'
        have hne : ((x.at_ : Int) != (y.at_ : Int)) = true := bne_iff_ne.2 (by omega)
        obtain ⟨_, _, k3, k4, k5, k6⟩ := HS.out
        clear hr ex HS
        go_wp2
        go_region
        replace HB := keepB1 HB
        go_wp2
        go_ret
        exact ⟨rfl, HB.out.1⟩
    · obtain rfl : k = xs.length := by omega
      have hr := HR.out
      have hr' : R = true := by rw [← hr]; exact decide_eq_true (by rw [List.drop_eq_nil_of_le (Nat.le_refl _), List.drop_eq_nil_of_le (by rw [HN.out]; omega)])
      subst hr'
      clear hr HR
      go_wp2
      go_ret
      exact ⟨rfl, HB.out.1⟩
end Go.Proofs.YtnigkecpiolgeaaDoor.My
/- Walk: memory with an image: the program's. -/
set_option linter.unusedSimpArgs false
set_option linter.unusedVariables false
namespace Go.Proofs.YtnigkecpiolgeaaDoor.My
open Go.RowKit
/-- Memory with segments: its bytes, and a code. -/
def loadR (n : Nat) : List SegV → List UInt8 → List UInt8 × Nat
  | [], M => (M, 0)
  | s :: r, M => if n < s.at_ + s.d.length then ([], 3) else loadR n r (splice M s.at_ s.d)
def loadV (size : Int) (ss : List SegV) : List UInt8 × Nat :=
  if size.tmod 64 ≠ 0 ∨ size < 64 ∨ 16384 < size then ([], 1) else if rightV ss ≠ 0 then ([], rightV ss) else loadR size.toNat ss (List.replicate size.toNat 0)
def LoadIs (R : List UInt8 × Nat) (w : World) (e : Ending) (w' : World) : Prop :=
  (∃ A c, e = .returned (.tuple #[.slice A R.1.length c, .int .i64 (R.2 : Nat)]) ∧ RdA .u8 w' A R.1.length (ints R.1)) ∧ Below w.heap.size w w'
theorem load_none {w w' : World} {n : Nat} (hb : Below w.heap.size w w') : LoadIs ([], n) w (.returned (.tuple #[.slice none 0 0, .int .i64 (n : Nat)])) w' := ⟨⟨none, 0, rfl, rfl, fun h => absurd h (Nat.not_lt_zero _)⟩, hb⟩
theorem infoU83 : (Tryd.prog.info? 5).map (fun i => (i.zero, i.size, i.bytes)) = some (some (.int .u8 0), 1, 1) := by kernel_rfl
theorem vals_splice (M d : List UInt8) (u : Nat) : splice ((ints M).map (Value.int .u8)) u ((ints d).map (Value.int .u8)) = (ints (splice M u d)).map (Value.int .u8) := by
  unfold splice ints
  simp [List.map_take, List.map_drop]
theorem rightR_small : ∀ (ss : List SegV) (L : Nat), rightR ss L = 0 → ∀ s ∈ ss, s.at_ + s.d.length ≤ 16384
  | [], L, h, s, hs => by cases hs
  | x :: r, L, h, s, hs => by
    rw [rightR] at h
    split at h
    · cases h
    · split at h
      · cases h
      · split at h
        · cases h
        · rcases List.mem_cons.1 hs with rfl | hs
          · omega
          · exact rightR_small r _ h s hs
theorem right_nz {ss : List SegV} (h : rightV ss = 0) : ∀ s ∈ ss, s.d.length ≠ 0 ∧ s.at_ + s.d.length ≤ 16384 := by
  have h0 : rightR ss 0 = 0 := by unfold rightV at h; split at h; cases h; exact h
  have key : ∀ (ss : List SegV) (L : Nat), rightR ss L = 0 → ∀ s ∈ ss, s.d.length ≠ 0 := by
    intro ss
    induction ss with
    | nil => intro L h s hs; cases hs
    | cons x r ih =>
      intro L h s hs
      rw [rightR] at h
      split at h
      · cases h
      · split at h
        · cases h
        · split at h
          · cases h
          · rcases List.mem_cons.1 hs with rfl | hs
            · assumption
            · exact ih _ h s hs
  exact fun s hs => ⟨key ss 0 h0 s hs, rightR_small ss 0 h0 s hs⟩
section
variable {P : Program} {ops : Array Oper} {o : Oper} {a : Act} {w : World} {Q : Exit → Act → World → Prop} {rest : List Oper}
theorem wlMake (hw : Region.wanted o (yielded ops a.tmps) = true) (t e : TypeId) (x y : Operand) (ho : o.op = .makeSlice t x y) (ht : P.underlying t = some (.slice e)) (hi : (P.info? e).map (fun i => (i.zero, i.size, i.bytes)) = some (some (.int .u8 0), 1, 1)) (n : Nat) (hx : a.eval x = .int .i64 (n : Int)) (hy : a.eval y = .int .i64 (n : Int)) (hn : n ≤ 1000000)
    (h : ∀ (g : Nat) (w2 : World), w.heap.size ≤ g → g < w2.heap.size → w2.heap[g]? = some (.cells ((ints (List.replicate n 0)).map (Value.int .u8)).toArray e (0, 0)) → Below w.heap.size w w2 → wpList P ops Q rest (a.put o.dst (.slice (some ⟨g, 0, none⟩) n n)) w2) : wpList P ops Q (o :: rest) a w :=
  wpList_step fun K hK => by
    rw [if_pos hw]
    obtain ⟨i, h1, h2⟩ := Option.map_eq_some_iff.1 hi
    simp only [Prod.mk.injEq] at h2
    obtain ⟨h2, h3, h4⟩ := h2
    have hr := run_make (P := P) w t e i (.int .u8 0) ht h1 h2 .i64 .i64 (n : Int) (n : Int) (by omega) (by omega) (by rw [h4]; omega) (by omega)
    have e0 : madeCells (Value.int .u8 0).cells (n * 1) = ((ints (List.replicate n 0)).map (Value.int .u8)).toArray := by
      rw [Nat.mul_one]
      have := made_rep (Value.int .u8 0) n
      refine Eq.trans this ?_
      unfold ints
      simp
    rw [Int.toNat_natCast, h3, e0] at hr
    have hrun : (execOp a.eval o).run P w = .ok (.value (.slice (some ⟨w.heap.size, 0, none⟩) n n)) (w.alloc (.cells ((ints (List.replicate n 0)).map (Value.int .u8)).toArray e)) := by
      unfold execOp
      simp only [ho, hx, hy, Sem.run_bind, hr, Result.andThen_ok]
      rfl
    unfold Oper.wp
    rw [hrun]
    exact hK _ _ (h _ _ (Nat.le_refl _) (by simp) (heap_alloc_new _ _) ((Below.refl _ _).alloc (Nat.le_refl _) _))
end
section
variable {P : Program} {ops : Array Oper} {o : Oper} {a : Act} {S : World → Prop}
/-- A slice cut at its head, of what may be nothing. -/
theorem yieldsFrom (hw : Region.wanted o (yielded ops a.tmps) = true) (t e : TypeId) (x lo : Operand) (ho : o.op = .slice t x (some lo) none none) (ht : P.underlying t = some (.slice e)) (hs : (P.info? e).map (·.size) = some 1) (b n l : Nat) (hx : a.eval x = .slice (some ⟨b, 0, none⟩) n n) (k1 : IntKind) (i1 : Int) (hl : a.eval lo = .int k1 i1) (e1 : i1 = (l : Int)) (h1 : l < n) : YieldsIf P ops S o (.slice (some ⟨b, l, none⟩) (n - l) (n - l)) a :=
  .inl ⟨hw, fun w _ => by
    subst e1
    unfold execOp
    have e2 : P.elem t = e := by simp [Program.elem, ht]
    have ht2 : P.underlying t = some (.slice (P.elem t)) := by rw [e2]; exact ht
    have hr := run_slice_l (P := P) (w := w) t (some ⟨b, 0, none⟩) n n ht2 k1 (l : Int) (by omega) (by omega)
    have hr0 := run_sliceAt_slice (P := P) (w := w) t (.slice (some ⟨b, 0, none⟩) n n) (some (.int k1 (l : Int))) none none ht2
    have hz : (sizeOf (P.elem t)).run P w = .ok 1 w := by
      rw [e2]
      cases hq : P.info? e with
      | none => simp [hq] at hs
      | some r =>
        have : r.size = 1 := by simpa [hq] using hs
        simp [sizeOf, typeInfo, hq, this]
    have hv : sliced (some ⟨b, 0, none⟩) ((l : Int)).toNat n n 1 = .slice (some ⟨b, l, none⟩) (n - l) (n - l) := by
      simp only [sliced, Int.toNat_natCast, Option.map_some, if_neg (show ¬ n = l by omega), addr_add, Nat.mul_one]
      congr 1
      simp
    rw [hr, hz, Result.andThen_ok, hv] at hr0
    simp only [ho, hx, hl, Option.map_some, Option.map_none, Sem.run_bind, Sem.run_pure, hr0, Result.andThen_ok]⟩
end
section
variable {P : Program} {ops : Array Oper} {o : Oper} {a : Act} {w : World} {K : Act → World → Prop} {Q : Exit → Act → World → Prop} {E : Prop}
/-- 'copy' as one step of a region that draws, into a row that is known whole; nothing else turns. -/
theorem rgCopy (hgd : o.guard = none) (d s : Operand) (dT sT : TypeId)
    (ho : o.op = .call { callee := .builtin .copy, args := #[d, s], argTypes := #[dT, sT] }) (elem : TypeId) (hu : P.underlying dT = some (.slice elem)) (hsz : (P.info? elem).map (·.size) = some 1)
    (sp : Option Addr) (dLen dCap sLen sCap g off : Nat) (hd : a.eval d = .slice (some ⟨g, off, none⟩) dLen dCap) (hs : a.eval s = .slice sp sLen sCap)
    (cur : List Value) (t : TypeId) (hg : w.heap[g]? = some (.cells cur.toArray t (0, 0))) (cs : List Value) (hn : cs.length = Nat.min sLen dLen)
    (hpos : ∃ ad, sp = some ad ∧ ∀ j v, cs[j]? = some v → w.cell? (ad.add j) = some v)
    (hfit : off + cs.length ≤ cur.length) (h1 : ∀ v ∈ cs, v.oneCell' = true)
    (h : ∀ w', w'.heap[g]? = some (.cells (splice cur off cs).toArray t (0, 0)) → Only g w w' → K (a.put o.dst (goInt cs.length)) w') :
    if Region.wanted o (yielded ops a.tmps) = true then Oper.wp P o a w K Q else E := by
  have hw : Region.wanted o (yielded ops a.tmps) = true := by simp [Region.wanted, hgd]
  rw [if_pos hw]
  obtain ⟨ad, rfl, hsrc⟩ := hpos
  have hrun := run_copy_row (P := P) w dT sT o.type elem g off dLen dCap ad sLen sCap cur.toArray t cs hu hsz hg hn hsrc (by simpa using hfit) h1
  unfold Oper.wp
  simp [execOp, ho, resolve, invoke, builtin, hd, hs, hrun, Result.andThen]
  exact h _ (by simpa [splice] using setRow_heap w g _ _ t _ hg) (only_setRow _ _ _)
end
set_option maxRecDepth 100000 in
set_option maxHeartbeats 4000000 in
theorem load_bad (size : Int) (st c : Nat) (S : Option Addr) (ms : List SegM) (w : World) (hx : RdSg w S ms) (hmx : ms.length ≤ 9223372036854775807) (h : size.tmod 64 ≠ 0 ∨ size < 64 ∨ 16384 < size) : Calls Tryd.prog 20 #[.int .i64 size, .agg (imA st S ms.length c)] w (LoadIs ([], 1) w) := by
  have HB := startB w
  have HX := Lib.hid hx
  clear hx
  by_cases q1 : size.tmod 64 = 0
  rotate_left
  · have f1 : (size.tmod 64 != 0) = true := bne_iff_ne.2 q1
    clear h
    go_enter Tryd.func20, Tryd.ntmps20
    go_wp2_with (refine wlBox ?_ 25 _ rfl (imA st S ms.length c) rfl ?_; exact rfl; intro gI w1 hg hl ha hb; replace HX := keepI HX hb; replace HB := keepB HB hb; have HI := Lib.hid ha; clear ha hb hg hl)
    go_ret2
    exact load_none HB.out.1
  have f1 : (size.tmod 64 != 0) = false := by rw [q1]; rfl
  by_cases q2 : size < 64
  · have f2 : decide (size < 64) = true := decide_eq_true q2
    clear h
    go_enter Tryd.func20, Tryd.ntmps20
    go_wp2_with (refine wlBox ?_ 25 _ rfl (imA st S ms.length c) rfl ?_; exact rfl; intro gI w1 hg hl ha hb; replace HX := keepI HX hb; replace HB := keepB HB hb; have HI := Lib.hid ha; clear ha hb hg hl)
    go_ret2
    exact load_none HB.out.1
  · have q3 : 16384 < size := by omega
    clear h
    go_enter Tryd.func20, Tryd.ntmps20
    go_wp2_with (refine wlBox ?_ 25 _ rfl (imA st S ms.length c) rfl ?_; exact rfl; intro gI w1 hg hl ha hb; replace HX := keepI HX hb; replace HB := keepB HB hb; have HI := Lib.hid ha; clear ha hb hg hl)
    go_ret2
    exact load_none HB.out.1
set_option maxRecDepth 100000 in
set_option maxHeartbeats 4000000 in
theorem load_wrong (n st c : Nat) (S : Option Addr) (ms : List SegM) (w : World) (hx : RdSg w S ms) (hmx : ms.length ≤ 9223372036854775807) (h1 : n % 64 = 0) (h2 : 64 ≤ n) (h3 : n ≤ 16384) (RV : Nat) (hRV : rightV (ms.map SegM.v) = RV) (hne : RV ≠ 0) : Calls Tryd.prog 20 #[.int .i64 (n : Nat), .agg (imA st S ms.length c)] w (LoadIs ([], RV) w) := by
  have HB := startB w
  have HX := Lib.hid hx
  have HRV := Lib.hid hRV
  have f1 : (n : Int) % 64 = 0 := by omega
  have f2 : decide ((n : Int) < 64) = false := decide_eq_false (by omega)
  have f3 : decide (16384 < (n : Int)) = false := decide_eq_false (by omega)
  have f4 : ((RV : Int) != 0) = true := bne_iff_ne.2 (by omega)
  clear hx hRV h1
  go_enter Tryd.func20, Tryd.ntmps20
  go_wp2_with (first | (refine wlBox ?_ 25 _ rfl (imA st S ms.length c) rfl ?_; exact rfl; intro gI w1 hg hl ha hb; replace HX := keepI HX hb; replace HB := keepB HB hb; have HI := Lib.hid ha; clear ha hb hg hl) | (refine rowLoad ?_ 25 _ rfl gI rfl (cs := imA st S ms.length c) HI.out Tryd.underlying25 rfl infoIm ?_; exact rfl) | (go_at_call 18; refine (right_any st c S ms _ HX.out hmx).mono ?_; rw [HRV.out]; rintro e w2 ⟨rfl, hb⟩; replace HX := keepI HX hb; replace HB := keepB HB hb; replace HI := keepA HI hb; clear hb))
  go_ret2
  exact load_none HB.out.1
set_option maxRecDepth 100000 in
set_option maxHeartbeats 4000000 in
theorem load_good (n st c : Nat) (S : Option Addr) (ms : List SegM) (w : World) (hx : RdSg w S ms) (hmx : ms.length ≤ 9223372036854775807) (h1 : n % 64 = 0) (h2 : 64 ≤ n) (h3 : n ≤ 16384) (hRV : rightV (ms.map SegM.v) = 0) (R : List UInt8 × Nat) (hR : loadR n (ms.map SegM.v) (List.replicate n 0) = R) : Calls Tryd.prog 20 #[.int .i64 (n : Nat), .agg (imA st S ms.length c)] w (LoadIs R w) := by
  have HB := startB w
  have HX := Lib.hid hx
  have HRV := Lib.hid hRV
  have HR : Hid (loadR n ((ms.drop 0).map SegM.v) (List.replicate n 0) = R) := Lib.hid hR
  have f1 : (n : Int) % 64 = 0 := by omega
  have f2 : decide ((n : Int) < 64) = false := decide_eq_false (by omega)
  have f3 : decide (16384 < (n : Int)) = false := decide_eq_false (by omega)
  have hn1 : n ≤ 1000000 := by omega
  have HX0 := Lib.hid hx
  have HRV0 := Lib.hid hRV
  clear hx hRV h1 hR
  go_enter Tryd.func20, Tryd.ntmps20
  go_wp2_with (first | (refine wlBox ?_ 25 _ rfl (imA st S ms.length c) rfl ?_; exact rfl; intro gI w1 hg hl ha hb; replace HX := keepI HX hb; replace HB := keepB HB hb; have HI := Lib.hid ha; clear ha hb hg hl) | (refine rowLoad ?_ 25 _ rfl gI rfl (cs := imA st S ms.length c) HI.out Tryd.underlying25 rfl infoIm ?_; exact rfl) | (go_at_call 18; refine (right_any st c S ms _ HX.out hmx).mono ?_; rw [HRV.out]; rintro e w2 ⟨rfl, hb⟩; replace HX := keepI HX hb; replace HB := keepB HB hb; replace HI := keepA HI hb; clear hb) | (refine wlMake ?_ 26 5 _ _ rfl Tryd.underlying26 infoU83 n rfl rfl hn1 ?_; exact rfl; intro gM w3 hg hl ha hb; have HMG : Hid (w.heap.size ≤ gM) := Lib.hid (Nat.le_trans HB.out.2 hg); replace HX := keepI HX hb; replace HB := keepB HB hb; replace HI := keepA HI hb; have i1 : w3.cell? ⟨gI, 1, none⟩ = some (.slice S ms.length c) := cellA HI 1; have HG := Lib.hid ha; clear ha hb hg hl))
  clear i1 f1 f2 f3
  go_loopw [31] (fun i wr => ∃ (k : Nat) (M : List UInt8), k ≤ ms.length ∧ i = .int .i64 k ∧ M.length = n ∧ Hid (loadR n ((ms.drop k).map SegM.v) M = R) ∧ Hid (wr.heap[gM]? = some (.cells ((ints M).map (Value.int .u8)).toArray 5 (0, 0))) ∧ Hid (Below w.heap.size w wr ∧ w.heap.size ≤ wr.heap.size)) (fun i _ => ms.length - (intOf i).toNat)
  case atStart => exact ⟨0, List.replicate n 0, Nat.zero_le _, by first | trivial | rfl, List.length_replicate, HR, HG, HB⟩
  case round =>
    clear HX HB HR HG HI
    obtain ⟨k, M, hk, rfl, hM, HR, HG, HB⟩ := hrel
    by_cases hlt : k < ms.length
    · have hn0 : 0 < ms.length := by omega
      have HX := Lib.hid (HX0.out.below HB.out.1)
      obtain ⟨m, hm⟩ : ∃ m, ms[k]? = some m := ⟨_, List.getElem?_eq_getElem hlt⟩
      obtain ⟨b, off, rfl, _, _⟩ := HX.out.1.2.2 hn0
      obtain ⟨a1, a2, _, hsd⟩ := HX0.out.2 m (List.mem_of_getElem? hm)
      have HSD0 := Lib.hid hsd
      obtain ⟨p1, p2⟩ := right_nz HRV0.out m.v (List.mem_map_of_mem (List.mem_of_getElem? hm))
      replace p1 : m.d.length ≠ 0 := p1
      replace p2 : m.at_ + m.d.length ≤ 16384 := p2
      have hr := HR.out
      rw [drop_cons hm, List.map_cons, loadR] at hr
      replace hr : (if n < m.at_ + m.d.length then ([], 3) else loadR n ((ms.drop (k + 1)).map SegM.v) (splice M m.at_ m.d)) = R := hr
      have E : ∀ w, Calls Tryd.prog 37 #[.agg (sA m)] w fun e w' => e = .returned (.int .i64 ((m.at_ + m.d.length : Nat) : Int)) ∧ Below w.heap.size w w' := fun w => end_any m w a1 a2
      have HE := Lib.hid E
      clear E HR hsd
      by_cases d1 : n < m.at_ + m.d.length
      · rw [if_pos d1] at hr
        subst hr
        go_wp2_with (first | (refine wlIdx rfl 23 _ _ rfl 51 2 Tryd.underlying23 sizeSeg b off ms.length c k rfl rfl hlt ?_) | (refine partLoad rfl 51 _ rfl b (off + k * 2) rfl (cs := sA m) (HX.out.1.at_ hn0 (sA_get hm)) Tryd.underlying51 rfl infoSeg ?_) | (refine rowNew (old := _) rfl 51 _ _ rfl rfl (sA m) rfl infoSeg rfl (sA_one m) ?_; intro w2 ha hb; have HGS : Hid (gM ≠ wr.heap.size) := Lib.hid (Nat.ne_of_lt (Array.getElem?_eq_some_iff.1 HG.out).1); replace HX := keepI HX hb; replace HB := keepB HB hb; replace HG := keepA HG hb; have HA := Lib.hid ha; clear ha hb) | (refine rowLoad rfl 51 _ rfl wr.heap.size rfl (cs := sA m) HA.out Tryd.underlying51 rfl infoSeg ?_) | (go_at_call 37; refine (HE.out _).mono ?_; rintro e w3 ⟨rfl, hb⟩; replace HX := keepI HX hb; replace HB := keepB HB hb; replace HA := keepA HA hb; replace HG := keepA HG hb; clear hb))
        go_ret2
        exact load_none HB.out.1
      · rw [if_neg d1] at hr
        have HR := Lib.hid hr
        clear hr
        have hat : m.at_ < n := by omega
        have HLN : Hid (((ints m.d).map (Value.int .u8)).length = Nat.min m.d.length (n - m.at_)) := Lib.hid (by rw [List.length_map, ints_len]; exact (Nat.min_eq_left (by omega)).symm)
        have HFT : Hid (m.at_ + ((ints m.d).map (Value.int .u8)).length ≤ ((ints M).map (Value.int .u8)).length) := Lib.hid (by rw [List.length_map, List.length_map, ints_len, ints_len, hM]; omega)
        have HPS : Hid (0 < ((ints m.d).map (Value.int .u8)).length) := Lib.hid (by rw [List.length_map, ints_len]; omega)
        have HSL : Hid ((splice M m.at_ m.d).length = n) := Lib.hid (by rw [length_splice _ _ _ (by omega)]; exact hM)
        go_wp2_with (first | (refine wlIdx rfl 23 _ _ rfl 51 2 Tryd.underlying23 sizeSeg b off ms.length c k rfl rfl hlt ?_) | (refine partLoad rfl 51 _ rfl b (off + k * 2) rfl (cs := sA m) (HX.out.1.at_ hn0 (sA_get hm)) Tryd.underlying51 rfl infoSeg ?_) | (refine rowNew (old := _) rfl 51 _ _ rfl rfl (sA m) rfl infoSeg rfl (sA_one m) ?_; intro w2 ha hb; have HGS : Hid (gM ≠ wr.heap.size) := Lib.hid (Nat.ne_of_lt (Array.getElem?_eq_some_iff.1 HG.out).1); replace HX := keepI HX hb; replace HB := keepB HB hb; replace HG := keepA HG hb; have HA := Lib.hid ha; clear ha hb) | (refine rowLoad rfl 51 _ rfl wr.heap.size rfl (cs := sA m) HA.out Tryd.underlying51 rfl infoSeg ?_) | (go_at_call 37; refine (HE.out _).mono ?_; rintro e w3 ⟨rfl, hb⟩; replace HX := keepI HX hb; replace HB := keepB HB hb; replace HA := keepA HA hb; replace HG := keepA HG hb; clear hb))
        replace HB := keepB1 HB
        replace HG := keepA1 HG
        replace HA := keepA1 HA
        refine rgStart (S := (fun w' => w'.cell? ⟨wr.heap.size, 0, none⟩ = some (.int .u32 m.at_) ∧ w'.cell? ⟨wr.heap.size, 1, none⟩ = some (.slice m.D m.d.length m.c))) (n := 7) #[false, false, false, false, false, false, false] (by kernel_rfl) rfl rfl ⟨cellA HA 0, cellA HA 1⟩ (fun hHeld => ?_)
        refine rgTake (i := 0) (N := some 39) (oi := { dst := some 39, op := Op.move (Operand.tmp 7), type := 26, pos := "rom.go:53", after := #[], guard := none }) (v := ?_) #[true, false, false, false, false, false, false] rfl rfl (by kernel_rfl) (fun _ _ _ h => h) (Or.inl ⟨by rfl, ?_⟩) hHeld ?_
        rotate_left
        · intro w' hSw; (try dsimp only at hSw); (obtain ⟨k1, k2⟩ := hSw); go_simp; try with_reducible rfl
        simp only [Act.put, List.setIfInBounds_toArray, List.set_cons_zero, List.set_cons_succ]
        refine rgTake (i := 1) (N := some 40) (oi := { dst := some 40, op := Op.fieldAddr 51 (Operand.tmp 9) 0, type := 0, pos := "rom.go:53", after := #[], guard := none }) (v := ?_) #[true, true, false, false, false, false, false] rfl rfl (by kernel_rfl) (fun _ _ _ h => h) (Or.inl ⟨by rfl, ?_⟩) hHeld ?_
        rotate_left
        · intro w' hSw; (try dsimp only at hSw); (obtain ⟨k1, k2⟩ := hSw); go_simp; try with_reducible rfl
        simp only [Act.put, List.setIfInBounds_toArray, List.set_cons_zero, List.set_cons_succ]
        refine rgTake (i := 2) (N := some 41) (oi := { dst := some 41, op := Op.load 22 (Operand.tmp 40), type := 22, pos := "rom.go:53", after := #[{ on := 1, ground := Ground.data }], guard := none }) (v := ?_) #[true, true, true, false, false, false, false] rfl rfl (by kernel_rfl) (fun _ _ _ h => h) (Or.inl ⟨by rfl, ?_⟩) hHeld ?_
        rotate_left
        · intro w' hSw; (try dsimp only at hSw); (obtain ⟨k1, k2⟩ := hSw); go_simp; try with_reducible rfl
        simp only [Act.put, List.setIfInBounds_toArray, List.set_cons_zero, List.set_cons_succ]
        refine rgTake (i := 3) (N := some 42) (oi := { dst := some 42, op := Op.slice 26 (Operand.tmp 39) (some (Operand.tmp 41)) none none, type := 26, pos := "rom.go:53", after := #[{ on := 0, ground := Ground.data }, { on := 2, ground := Ground.data }], guard := none }) (v := _) #[true, true, true, true, false, false, false] rfl rfl (by kernel_rfl) (fun _ _ _ h => h) (yieldsFrom (by rfl) 26 5 _ _ rfl Tryd.underlying26 infoU8 gM n m.at_ rfl _ _ rfl rfl hat) hHeld ?_
        simp only [Act.put, List.setIfInBounds_toArray, List.set_cons_zero, List.set_cons_succ]
        refine rgTake (i := 4) (N := some 43) (oi := { dst := some 43, op := Op.fieldAddr 51 (Operand.tmp 9) 1, type := 0, pos := "rom.go:53", after := #[], guard := none }) (v := ?_) #[true, true, true, true, true, false, false] rfl rfl (by kernel_rfl) (fun _ _ _ h => h) (Or.inl ⟨by rfl, ?_⟩) hHeld ?_
        rotate_left
        · intro w' hSw; (try dsimp only at hSw); (obtain ⟨k1, k2⟩ := hSw); go_simp; try with_reducible rfl
        simp only [Act.put, List.setIfInBounds_toArray, List.set_cons_zero, List.set_cons_succ]
        refine rgTake (i := 5) (N := some 44) (oi := { dst := some 44, op := Op.load 26 (Operand.tmp 43), type := 26, pos := "rom.go:53", after := #[{ on := 4, ground := Ground.data }], guard := none }) (v := ?_) #[true, true, true, true, true, true, false] rfl rfl (by kernel_rfl) (fun _ _ _ h => h) (Or.inl ⟨by rfl, ?_⟩) hHeld ?_
        rotate_left
        · intro w' hSw; (try dsimp only at hSw); (obtain ⟨k1, k2⟩ := hSw); go_simp; try with_reducible rfl
        simp only [Act.put, List.setIfInBounds_toArray, List.set_cons_zero, List.set_cons_succ]
        refine rgCall (i := 6) (N := some 45) (oi := { dst := some 45, op := Op.call { callee := Callee.builtin Builtin.copy, args := #[Operand.tmp 42, Operand.tmp 44], argTypes := #[26, 26] }, type := 3, pos := "rom.go:53", after := #[{ on := 3, ground := Ground.data }, { on := 5, ground := Ground.data }], guard := none }) #[true, true, true, true, true, true, true] rfl rfl (by kernel_rfl) (fun K hK => ?_)
        refine rgCopy rfl _ _ 26 26 rfl 5 Tryd.underlying26 infoU8 m.D (n - m.at_) (n - m.at_) m.d.length m.c gM m.at_ rfl rfl ((ints M).map (Value.int .u8)) 5 HG.out ((ints m.d).map (Value.int .u8)) HLN.out ((HSD0.out.below HB.out.1).src HPS.out) HFT.out (ones_ma _ _) ?_; intro w4 hg4 ho; replace HG : Hid (w4.heap[gM]? = some (.cells ((ints (splice M m.at_ m.d)).map (Value.int .u8)).toArray 5 (0, 0))) := Lib.hid (by rw [← vals_splice]; exact hg4); replace HA := keepAo HA HGS.out.symm ho; replace HB := keepBo HB HMG.out ho; clear hg4 ho
        refine hK.out _ _ ⟨cellA HA 0, cellA HA 1⟩ (fun hHeld => ?_)
        (try simp only [Act.put, List.setIfInBounds_toArray, List.set_cons_zero, List.set_cons_succ])
        clear hK K
        refine rgDone (by kernel_rfl) ?_ _
        go_wp2
        go_roundw
        case rel => exact ⟨k + 1, splice M m.at_ m.d, by omega, by first | trivial | go_num, HSL.out, HR, HG, HB⟩
        case measure => simp [intOf]; omega
    · obtain rfl : k = ms.length := by omega
      have hr := HR.out
      rw [List.drop_eq_nil_of_le (Nat.le_refl _), List.map_nil, loadR] at hr
      subst hr
      subst hM
      go_wp2
      go_ret2
      exact ⟨⟨_, _, rfl, RdA.of_row (by rw [ints_len]) HG.out⟩, HB.out.1⟩
end Go.Proofs.YtnigkecpiolgeaaDoor.My
/- Walk: may an image be: the reference's. -/
set_option linter.unusedSimpArgs false
set_option linter.unusedVariables false
namespace Go.Proofs.YtnigkecpiolgeaaDoor.My
open Go.RowKit
set_option maxRecDepth 100000 in
set_option maxHeartbeats 1000000 in
theorem rright_any (st c : Nat) (S : Option Addr) (ms : List SegM) (w : World) (hx : RdSg w S ms) (hmx : ms.length ≤ 9223372036854775807) : Calls Tryd.prog 23 #[.agg (imA st S ms.length c)] w fun e w' => e = .returned (.int .i64 (rightV (ms.map SegM.v) : Nat)) ∧ Below w.heap.size w w' := by
  have HB := startB w
  have HX := Lib.hid hx
  clear hx
  obtain ⟨R, hR⟩ : ∃ R, rightV (ms.map SegM.v) = R := ⟨_, rfl⟩
  rw [hR]
  have HR := Lib.hid hR
  clear hR
  go_enter Tryd.func23, Tryd.ntmps23
  by_cases h64 : 64 < ms.length
  · have hR' : R = 4 := by rw [← HR.out]; unfold rightV; rw [if_pos (by simpa using h64)]
    subst hR'
    go_wp2_with (refine wlBox ?_ 25 _ rfl (imA st S ms.length c) rfl ?_; exact rfl; intro gI w1 hg hl ha hb; replace HB := keepB HB hb; have HI := Lib.hid ha; have i1 : w1.cell? ⟨gI, 1, none⟩ = some (.slice S ms.length c) := cellA HI 1; clear ha hb hg hl)
    go_ret
    exact ⟨rfl, HB.out.1⟩
  · have HR2 : Hid (rightR ((ms.drop 0).map SegM.v) 0 = R) := Lib.hid (by have := HR.out; unfold rightV at this; rwa [if_neg (by simpa using h64)] at this)
    clear HR
    go_wp2_with (refine wlBox ?_ 25 _ rfl (imA st S ms.length c) rfl ?_; exact rfl; intro gI w1 hg hl ha hb; replace HB := keepB HB hb; have HI := Lib.hid ha; have i1 : w1.cell? ⟨gI, 1, none⟩ = some (.slice S ms.length c) := cellA HI 1; clear ha hb hg hl)
    clear i1
    go_loopw [3, 4] (fun l i wr => ∃ (k L : Nat), k ≤ ms.length ∧ i = .int .i64 k ∧ l = .int .i64 L ∧ L ≤ 16384 ∧ Hid (rightR ((ms.drop k).map SegM.v) L = R) ∧ Hid (wr.heap[gI]? = some (.cells (imA st S ms.length c) 25 (0, 0))) ∧ Hid (Below w.heap.size w wr ∧ w.heap.size ≤ wr.heap.size)) (fun _ i _ => ms.length - (intOf i).toNat)
    case atStart => exact ⟨0, 0, Nat.zero_le _, by first | trivial | rfl, by first | trivial | rfl, Nat.zero_le _, HR2, HI, HB⟩
    case round =>
      clear HB HR2 HI
      obtain ⟨k, L, hk, rfl, rfl, hL, HR, HI, HB⟩ := hrel
      have i1 : wr.cell? ⟨gI, 1, none⟩ = some (.slice S ms.length c) := cellA HI 1
      by_cases hlt : k < ms.length
      · obtain ⟨m, hm⟩ : ∃ m, ms[k]? = some m := ⟨_, List.getElem?_eq_getElem hlt⟩
        have HXW := Lib.hid (HX.out.below HB.out.1)
        obtain ⟨b, off, rfl, _, hcc⟩ := HXW.out.1.2.2 (by omega)
        obtain ⟨a1, a2, _⟩ := HX.out.2 m (List.mem_of_getElem? hm)
        have f0 : wr.cell? ⟨b, off + k * 2, none⟩ = some (.int .u32 m.at_) := hcc k (sA m) (sA_get hm) 0 _ rfl
        have f1 : wr.cell? ⟨b, off + k * 2 + 1, none⟩ = some (.slice m.D m.d.length m.c) := hcc k (sA m) (sA_get hm) 1 _ rfl
        have hr := HR.out
        rw [drop_cons hm, List.map_cons, rightR_cons] at hr
        obtain ⟨at0, hat0⟩ : ∃ a, m.at_ = a := ⟨_, rfl⟩
        obtain ⟨n0, hn0⟩ : ∃ n, m.d.length = n := ⟨_, rfl⟩
        rw [hat0] at f0 hr a1
        rw [hn0] at f1 hr a2
        clear hcc HR HXW hat0 hn0 hm
        by_cases d0 : n0 = 0
        · rw [if_pos d0] at hr
          subst hr
          subst d0
          go_wp2
          go_region
          replace HB := keepB1 HB
          replace HI := keepA1 HI
          go_wp2
          go_ret
          exact ⟨rfl, HB.out.1⟩
        · rw [if_neg d0] at hr
          have d0' : ((n0 : Int) == 0) = false := beq_eq_false_iff_ne.2 (by omega)
          by_cases d1 : 16384 < at0 + n0
          · rw [if_pos d1] at hr
            subst hr
            have g1 : decide (16384 < at0 + n0) = true := decide_eq_true d1
            have g1' : (16384 : Int) < (at0 : Int) + (n0 : Int) := by omega
            by_cases d2 : 16384 < n0
            · have g2 : (16384 : Int) < (n0 : Int) := by omega
              go_wp2
              go_region
              replace HB := keepB1 HB
              replace HI := keepA1 HI
              go_wp2
              go_ret
              exact ⟨rfl, HB.out.1⟩
            · go_wp2
              go_region
              replace HB := keepB1 HB
              replace HI := keepA1 HI
              go_wp2
              go_ret
              exact ⟨rfl, HB.out.1⟩
          · rw [if_neg d1] at hr
            by_cases d2 : at0 < L
            · rw [if_pos d2] at hr
              subst hr
              go_wp2
              go_region
              replace HB := keepB1 HB
              replace HI := keepA1 HI
              go_wp2
              go_ret
              exact ⟨rfl, HB.out.1⟩
            · rw [if_neg d2] at hr
              have HR := Lib.hid hr
              clear hr
              go_wp2
              go_region
              replace HB := keepB1 HB
              replace HI := keepA1 HI
              go_wp2
              go_roundw
              case rel => exact ⟨k + 1, at0 + n0, by omega, by first | trivial | go_num, by first | trivial | go_num, by omega, HR, HI, HB⟩
              case measure => simp [intOf]; omega
      · obtain rfl : k = ms.length := by omega
        have hr := HR.out
        rw [List.drop_eq_nil_of_le (Nat.le_refl _), List.map_nil, rightR] at hr
        subst hr
        go_wp2
        go_ret
        exact ⟨rfl, HB.out.1⟩
end Go.Proofs.YtnigkecpiolgeaaDoor.My
/- Walk: memory with an image: the reference's. -/
set_option linter.unusedSimpArgs false
set_option linter.unusedVariables false
namespace Go.Proofs.YtnigkecpiolgeaaDoor.My
open Go.RowKit
theorem splice_set {M d : List UInt8} {u q : Nat} {x : UInt8} (h : d[q]? = some x) (hl : u + d.length ≤ M.length) : (splice M u (d.take q)).set (u + q) x = splice M u (d.take (q + 1)) := by
  have hq : q < d.length := (List.getElem?_eq_some_iff.1 h).1
  have e1 : (d.take q).length = q := by rw [List.length_take]; omega
  have e2 : (d.take (q + 1)).length = q + 1 := by rw [List.length_take]; omega
  have e3 : (M.take u).length = u := by rw [List.length_take]; omega
  unfold splice
  rw [e1, e2, List.set_append_right _ _ (by omega), e3, show u + q - u = q by omega, List.set_append_right _ _ (by omega), e1, Nat.sub_self, List.drop_eq_getElem_cons (show u + q < M.length by omega), List.set_cons_zero, List.take_add_one, h, ← Nat.add_assoc]
  simp
set_option maxRecDepth 100000 in
set_option maxHeartbeats 1000000 in
theorem rload_bad (size : Int) (st c : Nat) (S : Option Addr) (ms : List SegM) (w : World) (hx : RdSg w S ms) (hmx : ms.length ≤ 9223372036854775807) (h : size.tmod 64 ≠ 0 ∨ size < 64 ∨ 16384 < size) : Calls Tryd.prog 21 #[.int .i64 size, .agg (imA st S ms.length c)] w (LoadIs ([], 1) w) := by
  have HB := startB w
  have HX := Lib.hid hx
  clear hx
  by_cases q2 : size < 64
  · clear h
    go_enter Tryd.func21, Tryd.ntmps21
    go_wp2_with (refine wlBox ?_ 25 _ rfl (imA st S ms.length c) rfl ?_; exact rfl; intro gI w1 hg hl ha hb; replace HX := keepI HX hb; replace HB := keepB HB hb; have HI := Lib.hid ha; clear ha hb hg hl)
    go_ret2
    exact load_none HB.out.1
  by_cases q3 : 16384 < size
  · clear h
    go_enter Tryd.func21, Tryd.ntmps21
    go_wp2_with (refine wlBox ?_ 25 _ rfl (imA st S ms.length c) rfl ?_; exact rfl; intro gI w1 hg hl ha hb; replace HX := keepI HX hb; replace HB := keepB HB hb; have HI := Lib.hid ha; clear ha hb hg hl)
    go_ret2
    exact load_none HB.out.1
  · have q1 : ¬ size.tmod 64 = 0 := by rcases h with h | h | h; exact h; exact absurd h q2; exact absurd h q3
    obtain ⟨n, rfl⟩ : ∃ n : Nat, size = n := ⟨size.toNat, by omega⟩
    have f0 : ¬ n % 64 = 0 := fun x => q1 (by rw [Int.tmod_eq_emod_of_nonneg (by omega)]; omega)
    have f1 : ¬ (n : Int) % 64 = 0 := by omega
    have f2 : ((n : Int) % 64 != 0) = true := bne_iff_ne.2 f1
    clear h q1
    go_enter Tryd.func21, Tryd.ntmps21
    go_wp2_with (refine wlBox ?_ 25 _ rfl (imA st S ms.length c) rfl ?_; exact rfl; intro gI w1 hg hl ha hb; replace HX := keepI HX hb; replace HB := keepB HB hb; have HI := Lib.hid ha; clear ha hb hg hl)
    go_ret2
    exact load_none HB.out.1
set_option maxRecDepth 100000 in
set_option maxHeartbeats 1000000 in
theorem rload_wrong (n st c : Nat) (S : Option Addr) (ms : List SegM) (w : World) (hx : RdSg w S ms) (hmx : ms.length ≤ 9223372036854775807) (h1 : n % 64 = 0) (h2 : 64 ≤ n) (h3 : n ≤ 16384) (RV : Nat) (hRV : rightV (ms.map SegM.v) = RV) (hne : RV ≠ 0) : Calls Tryd.prog 21 #[.int .i64 (n : Nat), .agg (imA st S ms.length c)] w (LoadIs ([], RV) w) := by
  have HB := startB w
  have HX := Lib.hid hx
  have HRV := Lib.hid hRV
  have f1 : (n : Int) % 64 = 0 := by omega
  have f2 : decide ((n : Int) < 64) = false := decide_eq_false (by omega)
  have f3 : decide (16384 < (n : Int)) = false := decide_eq_false (by omega)
  have f4 : ((RV : Int) != 0) = true := bne_iff_ne.2 (by omega)
  clear hx hRV h1
  go_enter Tryd.func21, Tryd.ntmps21
  go_wp2_with (first | (refine wlBox ?_ 25 _ rfl (imA st S ms.length c) rfl ?_; exact rfl; intro gI w1 hg hl ha hb; replace HX := keepI HX hb; replace HB := keepB HB hb; have HI := Lib.hid ha; clear ha hb hg hl) | (refine rowLoad ?_ 25 _ rfl gI rfl (cs := imA st S ms.length c) HI.out Tryd.underlying25 rfl infoIm ?_; exact rfl) | (go_at_call 23; refine (rright_any st c S ms _ HX.out hmx).mono ?_; rw [HRV.out]; rintro e w2 ⟨rfl, hb⟩; replace HX := keepI HX hb; replace HB := keepB HB hb; replace HI := keepA HI hb; clear hb))
  go_ret2
  exact load_none HB.out.1
theorem set_vals (L : List UInt8) (p : Nat) (x : UInt8) : ((ints L).map (Value.int .u8)).toArray.setIfInBounds p (.int .u8 (x.toNat : Int)) = ((ints (L.set p x)).map (Value.int .u8)).toArray := by
  apply Array.ext'
  simp [ints, List.map_set]
set_option maxRecDepth 100000 in
set_option maxHeartbeats 800000 in
theorem rload_good (n st c : Nat) (S : Option Addr) (ms : List SegM) (w : World) (hx : RdSg w S ms) (hmx : ms.length ≤ 9223372036854775807) (h1 : n % 64 = 0) (h2 : 64 ≤ n) (h3 : n ≤ 16384) (hRV : rightV (ms.map SegM.v) = 0) (R : List UInt8 × Nat) (hR : loadR n (ms.map SegM.v) (List.replicate n 0) = R) : Calls Tryd.prog 21 #[.int .i64 (n : Nat), .agg (imA st S ms.length c)] w (LoadIs R w) := by
  have HB := startB w
  have HX := Lib.hid hx
  have HX0 := Lib.hid hx
  have HRV := Lib.hid hRV
  have HRV0 := Lib.hid hRV
  have HR : Hid (loadR n ((ms.drop 0).map SegM.v) (List.replicate n 0) = R) := Lib.hid hR
  have f1 : (n : Int) % 64 = 0 := by omega
  have f2 : decide ((n : Int) < 64) = false := decide_eq_false (by omega)
  have f3 : decide (16384 < (n : Int)) = false := decide_eq_false (by omega)
  have hn1 : n ≤ 1000000 := by omega
  clear hx hRV h1 hR
  go_enter Tryd.func21, Tryd.ntmps21
  go_wp2_with (first | (refine wlBox ?_ 25 _ rfl (imA st S ms.length c) rfl ?_; exact rfl; intro gI w1 hg hl ha hb; replace HX := keepI HX hb; replace HB := keepB HB hb; have HI := Lib.hid ha; clear ha hb hg hl) | (refine rowLoad ?_ 25 _ rfl gI rfl (cs := imA st S ms.length c) HI.out Tryd.underlying25 rfl infoIm ?_; exact rfl) | (go_at_call 23; refine (rright_any st c S ms _ HX.out hmx).mono ?_; rw [HRV.out]; rintro e w2 ⟨rfl, hb⟩; replace HX := keepI HX hb; replace HB := keepB HB hb; replace HI := keepA HI hb; clear hb) | (refine wlMake ?_ 26 5 _ _ rfl Tryd.underlying26 infoU83 n rfl rfl hn1 ?_; exact rfl; intro gM w3 hg hl ha hb; have HMG : Hid (w.heap.size ≤ gM) := Lib.hid (Nat.le_trans HB.out.2 hg); have HIM : Hid (gI ≠ gM) := Lib.hid (Nat.ne_of_lt (Nat.lt_of_lt_of_le (Array.getElem?_eq_some_iff.1 HI.out).1 hg)); replace HB := keepB HB hb; replace HI := keepA HI hb; have HG := Lib.hid ha; clear ha hb hg hl))
  clear f1 f2 f3
  go_loopw [8] (fun i wr => ∃ (k : Nat) (M : List UInt8), k ≤ ms.length ∧ i = .int .i64 k ∧ M.length = n ∧ Hid (loadR n ((ms.drop k).map SegM.v) M = R) ∧ Hid (wr.heap[gM]? = some (.cells ((ints M).map (Value.int .u8)).toArray 5 (0, 0))) ∧ Hid (wr.heap[gI]? = some (.cells (imA st S ms.length c) 25 (0, 0))) ∧ Hid (Below w.heap.size w wr ∧ w.heap.size ≤ wr.heap.size)) (fun i _ => ms.length - (intOf i).toNat)
  case atStart => exact ⟨0, List.replicate n 0, Nat.zero_le _, by first | trivial | rfl, List.length_replicate, HR, HG, HI, HB⟩
  case round =>
    clear HX HB HR HG HI
    obtain ⟨k, M, hk, rfl, hM, HR, HG, HI, HB⟩ := hrel
    have i1 : wr.cell? ⟨gI, 1, none⟩ = some (.slice S ms.length c) := cellA HI 1
    by_cases hlt : k < ms.length
    · have hn0 : 0 < ms.length := by omega
      have HXW := Lib.hid (HX0.out.below HB.out.1)
      obtain ⟨m, hm⟩ : ∃ m, ms[k]? = some m := ⟨_, List.getElem?_eq_getElem hlt⟩
      obtain ⟨b, off, rfl, _, hcc⟩ := HXW.out.1.2.2 hn0
      obtain ⟨a1, a2, _, hsd⟩ := HX0.out.2 m (List.mem_of_getElem? hm)
      obtain ⟨p1, p2⟩ := right_nz HRV0.out m.v (List.mem_map_of_mem (List.mem_of_getElem? hm))
      replace p2 : m.at_ + m.d.length ≤ 16384 := p2
      have f0 : wr.cell? ⟨b, off + k * 2, none⟩ = some (.int .u32 m.at_) := hcc k (sA m) (sA_get hm) 0 _ rfl
      have f1 : wr.cell? ⟨b, off + k * 2 + 1, none⟩ = some (.slice m.D m.d.length m.c) := hcc k (sA m) (sA_get hm) 1 _ rfl
      have hr := HR.out
      rw [drop_cons hm, List.map_cons, loadR] at hr
      replace hr : (if n < m.at_ + m.d.length then ([], 3) else loadR n ((ms.drop (k + 1)).map SegM.v) (splice M m.at_ m.d)) = R := hr
      clear hcc HR HXW p1
      by_cases d1 : n < m.at_ + m.d.length
      · rw [if_pos d1] at hr
        subst hr
        have g1 : decide (n < m.at_ + m.d.length) = true := decide_eq_true d1
        go_wp2_with (refine wlIdx ?_ 23 _ _ rfl 51 2 Tryd.underlying23 sizeSeg b off ms.length c k rfl rfl hlt ?_; exact rfl)
        go_ret2
        exact load_none HB.out.1
      · rw [if_neg d1] at hr
        have HR := Lib.hid hr
        clear hr
        have g1 : decide (n < m.at_ + m.d.length) = false := decide_eq_false d1
        have HG0 : Hid (wr.heap[gM]? = some (.cells ((ints (splice M m.at_ (m.d.take 0))).map (Value.int .u8)).toArray 5 (0, 0))) := Lib.hid (by have := HG.out; simpa [splice] using this)
        have hmem := List.mem_of_getElem? hm
        clear HG
        go_wp2_with (refine wlIdx ?_ 23 _ _ rfl 51 2 Tryd.underlying23 sizeSeg b off ms.length c k rfl rfl hlt ?_; exact rfl)
        clear i1 f0 f1
        go_loopw [10] (fun j wi => ∃ q : Nat, q ≤ m.d.length ∧ j = .int .i64 q ∧ Hid (wi.heap[gM]? = some (.cells ((ints (splice M m.at_ (m.d.take q))).map (Value.int .u8)).toArray 5 (0, 0))) ∧ Hid (wi.heap[gI]? = some (.cells (imA st (some ⟨b, off, none⟩) ms.length c) 25 (0, 0))) ∧ Hid (Below w.heap.size w wi ∧ w.heap.size ≤ wi.heap.size)) (fun j _ => m.d.length - (intOf j).toNat)
        case atStart => exact ⟨0, Nat.zero_le _, by first | trivial | rfl, HG0, HI, HB⟩
        case round =>
          clear HG0 HI HB
          obtain ⟨q, hq, rfl, HG, HI, HB⟩ := hrel
          have HXW := Lib.hid (HX0.out.below HB.out.1)
          obtain ⟨b', off', he, _, hcc⟩ := HXW.out.1.2.2 hn0
          injection he with he
          injection he with e1 e2 _
          subst e1; subst e2
          have f1 : wr.cell? ⟨b, off + k * 2 + 1, none⟩ = some (.slice m.D m.d.length m.c) := hcc k (sA m) (sA_get hm) 1 _ rfl
          have i1 : wr.cell? ⟨gI, 1, none⟩ = some (.slice (some ⟨b, off, none⟩) ms.length c) := cellA HI 1
          have hrd := (HXW.out.2 m hmem).2.2.2
          clear hcc
          by_cases hq2 : q < m.d.length
          · obtain ⟨bd, od, hD, hcd⟩ := hrd.2 (by omega)
            obtain ⟨x, hx⟩ : ∃ x, m.d[q]? = some x := ⟨_, List.getElem?_eq_getElem hq2⟩
            obtain ⟨p, hp⟩ : ∃ p, m.at_ + q = p := ⟨_, rfl⟩
            have hpn : p < n := by omega
            have e0 : (m.at_ : Int) + (q : Int) = (p : Int) := by omega
            have g3 : wr.cell? ⟨bd, od + q, none⟩ = some (.int .u8 (x.toNat : Int)) := by rw [hcd q hq2, el_ints hx]
            have HNX : Hid ((splice M m.at_ (m.d.take q)).set p x = splice M m.at_ (m.d.take (q + 1))) := Lib.hid (by rw [← hp]; exact splice_set hx (by omega))
            have HPL : Hid (p < ((ints (splice M m.at_ (m.d.take q))).map (Value.int .u8)).toArray.size) := Lib.hid (by
              rw [List.size_toArray, List.length_map, ints_len, length_splice _ _ _ (by rw [List.length_take]; omega), hM]; exact hpn)
            rw [hD] at f1
            clear hcd hx hp hrd hD
            go_wp2_with (first | (refine wlIdx ?_ 23 _ _ rfl 51 2 Tryd.underlying23 sizeSeg b off ms.length c k rfl rfl hlt ?_; exact rfl) | (refine cellStore ?_ 5 _ _ rfl gM p ?_ (.int .u8 (x.toNat : Int)) rfl rfl rfl HG.out HPL.out infoU8 ?_; exact rfl; exact rfl; intro w4 hg4 ho; replace HG := Lib.hid hg4; replace HI := keepAo HI HIM.out ho; replace HB := keepBo HB HMG.out ho; clear hg4 ho))
            go_roundw
            case rel => exact ⟨q + 1, by omega, by first | trivial | go_num, Lib.hid (by have := HG.out; rw [set_vals, HNX.out] at this; exact this), HI, HB⟩
            case measure => simp [intOf]; omega
          · obtain rfl : q = m.d.length := by omega
            have HG2 : Hid (wr.heap[gM]? = some (.cells ((ints (splice M m.at_ m.d)).map (Value.int .u8)).toArray 5 (0, 0))) := Lib.hid (by have := HG.out; rwa [List.take_of_length_le (Nat.le_refl _)] at this)
            have HSL : Hid ((splice M m.at_ m.d).length = n) := Lib.hid (by rw [length_splice _ _ _ (by omega)]; exact hM)
            clear hrd HG
            go_wp2_with (refine wlIdx ?_ 23 _ _ rfl 51 2 Tryd.underlying23 sizeSeg b off ms.length c k rfl rfl hlt ?_; exact rfl)
            go_roundw
            case rel => exact ⟨k + 1, splice M m.at_ m.d, by omega, by first | trivial | go_num, HSL.out, HR, HG2, HI, HB⟩
            case measure => simp [intOf]; omega
    · obtain rfl : k = ms.length := by omega
      have hr := HR.out
      rw [List.drop_eq_nil_of_le (Nat.le_refl _), List.map_nil, loadR] at hr
      subst hr
      subst hM
      go_wp2
      go_ret2
      exact ⟨⟨_, _, rfl, RdA.of_row (by rw [ints_len]) HG.out⟩, HB.out.1⟩
end Go.Proofs.YtnigkecpiolgeaaDoor.My
/- Plain: what stands in memory with an image, and its sum. -/
set_option linter.unusedVariables false
set_option linter.unusedSimpArgs false
namespace Go.Proofs.YtnigkecpiolgeaaDoor.My
open Go.RowKit
theorem totV_zero (n : Nat) : totV (List.replicate n 0) = 0 := by
  induction n with
  | zero => rfl
  | succ n ih => rw [List.replicate_succ, totV, ih]; rfl
theorem totV_le : ∀ (l : List UInt8), totV l ≤ 255 * l.length
  | [] => Nat.zero_le _
  | c :: r => by
    have := totV_le r
    have := c.toNat_lt
    rw [totV, List.length_cons]
    omega
/-- The sum of all segments' bytes. -/
def totS : List SegV → Nat
  | [] => 0
  | s :: r => totV s.d + totS r
theorem totS_le : ∀ (ss : List SegV), totS ss ≤ 255 * totD ss
  | [] => Nat.zero_le _
  | s :: r => by
    have h1 := totS_le r
    have h2 := totV_le s.d
    unfold totD at h1 ⊢
    rw [totS, List.map_cons, List.sum_cons]
    omega
theorem rep_drop {M : List UInt8} {n L K : Nat} (h : M.drop L = List.replicate (n - L) 0) (hk : L ≤ K) : M.drop K = List.replicate (n - K) 0 := by
  have e : M.drop K = (M.drop L).drop (K - L) := by rw [List.drop_drop, show L + (K - L) = K by omega]
  rw [e, h, List.drop_replicate, show n - L - (K - L) = n - K by omega]
theorem load_plain (n : Nat) : ∀ (ss : List SegV) (L : Nat) (M M' : List UInt8), rightR ss L = 0 → M.length = n → M.drop L = List.replicate (n - L) 0 → loadR n ss M = (M', 0) →
    M'.length = n ∧ (L ≤ n → M'.take L = M.take L) ∧ (∀ s ∈ ss, s.at_ + s.d.length ≤ n ∧ (M'.drop s.at_).take s.d.length = s.d) ∧ totV M' = totV M + totS ss
  | [], L, M, M', hr, hM, hz, h => by
    rw [loadR] at h
    injection h with h _
    subst h
    exact ⟨hM, (fun _ => rfl), (fun s hs => by cases hs), rfl⟩
  | s :: r, L, M, M', hr, hM, hz, h => by
    rw [rightR] at hr
    split at hr
    · cases hr
    · rename_i q1
      split at hr
      · cases hr
      · rename_i q2
        split at hr
        · cases hr
        · rename_i q3
          rw [loadR] at h
          split at h
          · injection h with _ h; cases h
          · rename_i q4
            have hl : (splice M s.at_ s.d).length = n := by rw [length_splice _ _ _ (by omega)]; exact hM
            have e1 : splice M s.at_ s.d = (M.take s.at_ ++ s.d) ++ M.drop (s.at_ + s.d.length) := by unfold splice; rw [List.append_assoc]
            have el : (M.take s.at_ ++ s.d).length = s.at_ + s.d.length := by rw [List.length_append, List.length_take]; omega
            have hd : (splice M s.at_ s.d).drop (s.at_ + s.d.length) = M.drop (s.at_ + s.d.length) := by rw [e1, List.drop_append_of_le_length (by omega), List.drop_eq_nil_of_le (by omega), List.nil_append]
            have ht : (splice M s.at_ s.d).take (s.at_ + s.d.length) = M.take s.at_ ++ s.d := by rw [e1, List.take_append_of_le_length (by omega), List.take_of_length_le (by omega)]
            obtain ⟨h1, h2, h3, h4⟩ := load_plain n r (s.at_ + s.d.length) _ M' hr hl (by rw [hd]; exact rep_drop hz (by omega)) h
            have h2 := h2 (by omega)
            rw [ht] at h2
            refine ⟨h1, fun hL => ?_, fun t hts => ?_, ?_⟩
            · have : (M'.take (s.at_ + s.d.length)).take L = (M.take s.at_ ++ s.d).take L := by rw [h2]
              rw [List.take_take, Nat.min_eq_left (by omega), List.take_append_of_le_length (by rw [List.length_take]; omega), List.take_take, Nat.min_eq_left (by omega)] at this
              exact this
            · rcases List.mem_cons.1 hts with rfl | hts
              · refine ⟨by omega, ?_⟩
                have : (M'.take (t.at_ + t.d.length)).drop t.at_ = (M.take t.at_ ++ t.d).drop t.at_ := by rw [h2]
                have e9 : (M.take t.at_).drop t.at_ = [] := List.drop_eq_nil_of_le (by rw [List.length_take]; omega)
                rw [List.drop_take, show t.at_ + t.d.length - t.at_ = t.d.length by omega, List.drop_append_of_le_length (by rw [List.length_take]; omega), e9, List.nil_append] at this
                exact this
              · exact h3 t hts
            · have hz2 : totV (M.drop s.at_) = 0 := by rw [rep_drop hz (by omega)]; exact totV_zero _
              have hz3 : totV (M.drop (s.at_ + s.d.length)) = 0 := by rw [rep_drop hz (by omega)]; exact totV_zero _
              have e5 : totV M = totV (M.take s.at_) + totV (M.drop s.at_) := by rw [← totV_app, List.take_append_drop]
              rw [h4, e1, totV_app, totV_app, hz3, e5, hz2, totS]
              omega
/-- Memory with an image that may be. -/
theorem load_lays {n : Nat} {ss : List SegV} {M : List UInt8} (hr : rightV ss = 0) (h : loadR n ss (List.replicate n 0) = (M, 0)) :
    M.length = n ∧ totV M = totS ss ∧ ∀ s ∈ ss, s.at_ + s.d.length ≤ n ∧ ∀ k, k < s.d.length → M[s.at_ + k]? = s.d[k]? := by
  have h0 : rightR ss 0 = 0 := by unfold rightV at hr; split at hr; cases hr; exact hr
  obtain ⟨h1, _, h3, h4⟩ := load_plain n ss 0 _ M h0 List.length_replicate (by rw [List.drop_zero, Nat.sub_zero]) h
  refine ⟨h1, by rw [h4, totV_zero, Nat.zero_add], fun s hs => ⟨(h3 s hs).1, fun k hk => ?_⟩⟩
  have := congrArg (fun l => l[k]?) (h3 s hs).2
  replace this : ((M.drop s.at_).take s.d.length)[k]? = s.d[k]? := this
  rwa [List.getElem?_take_of_lt hk, List.getElem?_drop] at this
theorem load_code (n : Nat) : ∀ (ss : List SegV) (M : List UInt8), (loadR n ss M).2 ≠ 0 → (loadR n ss M).1 = []
  | [], M, h => absurd rfl h
  | s :: r, M, h => by
    rw [loadR] at h ⊢
    split at h
    · rename_i q; rw [if_pos q]
    · rename_i q; rw [if_neg q]; exact load_code n r _ h
end Go.Proofs.YtnigkecpiolgeaaDoor.My
/- The law of what stands in memory, walked. -/
set_option linter.unusedVariables false
set_option linter.unusedSimpArgs false
namespace Go.Proofs.YtnigkecpiolgeaaDoor.My
open Go.RowKit
theorem light_small3 : ∀ (ss : List SegV) (n : Nat), lightR n ss = true → (∀ s ∈ ss, s.d.length ≤ 600) ∧ n + totD ss ≤ 3000
  | [], n, h => ⟨(fun s hs => by cases hs), by unfold lightR at h; have := of_decide_eq_true h; show n + 0 ≤ 3000; omega⟩
  | s :: r, n, h => by
    rw [lightR] at h
    split at h
    · cases h
    · obtain ⟨h1, h2⟩ := light_small3 r _ h
      refine ⟨fun t ht => ?_, ?_⟩
      · rcases List.mem_cons.1 ht with rfl | ht
        · omega
        · exact h1 t ht
      · unfold totD at h2 ⊢
        rw [List.map_cons, List.sum_cons]
        omega
theorem light_ok3 {ss : List SegV} (h : lightB ss = true) : ss.length ≤ 70 ∧ (∀ s ∈ ss, s.d.length ≤ 600) ∧ totD ss ≤ 3000 := by
  unfold lightB at h
  split at h
  · cases h
  · obtain ⟨h1, h2⟩ := light_small3 ss 0 h
    exact ⟨by omega, h1, by omega⟩
theorem load_any (size : Int) (st c : Nat) (S : Option Addr) (ms : List SegM) (w : World) (hx : RdSg w S ms) (hmx : ms.length ≤ 9223372036854775807) : Calls Tryd.prog 20 #[.int .i64 size, .agg (imA st S ms.length c)] w (LoadIs (loadV size (ms.map SegM.v)) w) := by
  unfold loadV
  by_cases h : size.tmod 64 ≠ 0 ∨ size < 64 ∨ 16384 < size
  · rw [if_pos h]
    exact load_bad size st c S ms w hx hmx h
  · rw [if_neg h]
    obtain ⟨n, rfl⟩ : ∃ n : Nat, size = n := ⟨size.toNat, by omega⟩
    have h0 : (n : Int).tmod 64 = 0 := Classical.byContradiction fun q => h (.inl q)
    have h1 : n % 64 = 0 := by
      rw [Int.tmod_eq_emod_of_nonneg (by omega)] at h0
      omega
    have h2 : 64 ≤ n := by omega
    have h3 : n ≤ 16384 := by omega
    by_cases q : rightV (ms.map SegM.v) = 0
    · rw [if_neg (fun x => x q), Int.toNat_natCast]
      exact load_good n st c S ms w hx hmx h1 h2 h3 q _ rfl
    · rw [if_pos q]
      exact load_wrong n st c S ms w hx hmx h1 h2 h3 _ rfl q
theorem loadV_code {size : Int} {ss : List SegV} {M : List UInt8} {F : Nat} (h : loadV size ss = (M, F)) (hF : F ≠ 0) : M = [] := by
  unfold loadV at h
  split at h
  · injection h with h _; exact h.symm
  · split at h
    · injection h with h _; exact h.symm
    · have := load_code size.toNat ss (List.replicate size.toNat 0) (by rw [h]; exact hF)
      rw [h] at this
      exact this
theorem loadV_good {size : Int} {ss : List SegV} {M : List UInt8} (h : loadV size ss = (M, 0)) : ∃ n : Nat, size = n ∧ n ≤ 16384 ∧ rightV ss = 0 ∧ loadR n ss (List.replicate n 0) = (M, 0) := by
  unfold loadV at h
  split at h
  · injection h with _ h; cases h
  · rename_i q
    split at h
    · rename_i q2
      injection h with _ h
      exact absurd h q2
    · rename_i q2
      exact ⟨size.toNat, by omega, by omega, Classical.byContradiction q2, h⟩
set_option maxRecDepth 100000 in
set_option maxHeartbeats 4000000 in
theorem lays_out (size : Int) (st c : Nat) (S : Option Addr) (ms : List SegM) (m : Int) (w : World) (hM : w.cell? ⟨0, 0, none⟩ = some (.int .i64 m)) (hx : RdSgG w S ms) (hmx : ms.length ≤ 9223372036854775807) (hmc : ms.length ≤ c) (hL : lightB (ms.map SegM.v) = false) : Calls Tryd.prog 8 #[.int .i64 size, .agg (imA st S ms.length c)] w fun e w' => e = .returned (.bool true) ∧ Below w.heap.size w w' := by
  have HB := startB w
  have HM := Lib.hid hM
  have HX := Lib.hid hx
  have HLT := Lib.hid hL
  clear hM hx hL
  go_enter Tryd.func8, Tryd.ntmps8
  go_wp2_with (first | (refine wlBox ?_ 25 _ rfl (imA st S ms.length c) rfl ?_; exact rfl; intro gI w1 hg hl ha hb; replace HB := keepB HB hb; have HI := Lib.hid ha; clear ha hb hg hl) | (refine rowLoad ?_ 25 _ rfl gI rfl (cs := imA st S ms.length c) HI.out Tryd.underlying25 rfl infoIm ?_; exact rfl) | (go_at_call 9; refine (light_any st c S ms _ (HX.out.below HB.out.1) hmx hmc).mono ?_; rw [HLT.out]; rintro e w2 ⟨rfl, hb⟩; replace HB := keepB HB hb; replace HI := keepA HI hb; clear hb) | (go_at_call 10; refine (awake_any m _ ((HB.out.1.cell (World.block_lt_of_cell? w _ HM.out)).trans HM.out)).mono ?_; rintro e w9 ⟨rfl, hb⟩; replace HB := keepB HB hb; clear hb))
  go_ret
  exact ⟨rfl, HB.out.1⟩
set_option maxRecDepth 100000 in
set_option maxHeartbeats 4000000 in
theorem lays_bad (size : Int) (st c : Nat) (S : Option Addr) (ms : List SegM) (m : Int) (w : World) (hM : w.cell? ⟨0, 0, none⟩ = some (.int .i64 m)) (hx : RdSgG w S ms) (hmx : ms.length ≤ 9223372036854775807) (hmc : ms.length ≤ c) (hL : lightB (ms.map SegM.v) = true) (F : Nat) (hV : loadV size (ms.map SegM.v) = ([], F)) (hF : F ≠ 0) : Calls Tryd.prog 8 #[.int .i64 size, .agg (imA st S ms.length c)] w fun e w' => e = .returned (.bool true) ∧ Below w.heap.size w w' := by
  have HB := startB w
  have HM := Lib.hid hM
  have HX := Lib.hid hx
  have HLT := Lib.hid hL
  have HXS : Hid (RdSg w S ms) := Lib.hid (hx.small fun m hm => Nat.le_trans ((light_ok3 hL).2.1 m.v (List.mem_map_of_mem hm)) (by decide))
  have HLD : Hid (∀ w2, Below w.heap.size w w2 → Calls Tryd.prog 20 #[.int .i64 size, .agg (imA st S ms.length c)] w2 (LoadIs ([], F) w2)) := Lib.hid (fun w2 hb => by have := load_any size st c S ms w2 (HXS.out.below hb) hmx; rwa [hV] at this)
  have qF : ((F : Int) != 0) = true := bne_iff_ne.2 (by omega)
  clear hM hx hL hV hF
  go_enter Tryd.func8, Tryd.ntmps8
  go_upto_region 5 with (first | (refine wlBox ?_ 25 _ rfl (imA st S ms.length c) rfl ?_; exact rfl; intro gI w1 hg hl ha hb; replace HB := keepB HB hb; have HI := Lib.hid ha; clear ha hb hg hl) | (refine rowLoad ?_ 25 _ rfl gI rfl (cs := imA st S ms.length c) HI.out Tryd.underlying25 rfl infoIm ?_; exact rfl) | (go_at_call 9; refine (light_any st c S ms _ (HX.out.below HB.out.1) hmx hmc).mono ?_; rw [HLT.out]; rintro e w2 ⟨rfl, hb⟩; replace HB := keepB HB hb; replace HI := keepA HI hb; clear hb) | (go_at_call 20; refine (HLD.out _ HB.out.1).mono ?_; clear HLD; rintro e w3 ⟨⟨A, cA, rfl, hrd⟩, hb⟩; have HMR := Lib.hid hrd; replace HB := keepB HB hb; replace HI := keepA HI hb; clear hb hrd))
  go_wp2_with (go_at_call 10; refine (awake_any m _ ((HB.out.1.cell (World.block_lt_of_cell? w _ HM.out)).trans HM.out)).mono ?_; rintro e w9 ⟨rfl, hb⟩; replace HB := keepB HB hb; clear hb)
  go_ret
  exact ⟨rfl, HB.out.1⟩
theorem totV_drop {l : List UInt8} {k : Nat} {x : UInt8} (h : l[k]? = some x) : totV (l.drop k) = x.toNat + totV (l.drop (k + 1)) := by rw [drop_cons h, totV]
set_option maxRecDepth 100000 in
set_option maxHeartbeats 4000000 in
theorem lays_good (n : Nat) (st c : Nat) (S : Option Addr) (ms : List SegM) (m0 : Int) (w : World) (hM : w.cell? ⟨0, 0, none⟩ = some (.int .i64 m0)) (hx : RdSgG w S ms) (hmx : ms.length ≤ 9223372036854775807) (hmc : ms.length ≤ c) (hL : lightB (ms.map SegM.v) = true) (M : List UInt8) (hV : loadV (n : Int) (ms.map SegM.v) = (M, 0)) (hn : n ≤ 16384) (hl : M.length = n) (TOT : Nat) (hT : totS (ms.map SegM.v) = TOT) (hTM : totV M = TOT) (hTT : TOT ≤ 765000)
    (hP : ∀ s ∈ ms, s.at_ + s.d.length ≤ n ∧ ∀ k, k < s.d.length → M[s.at_ + k]? = s.d[k]?) : Calls Tryd.prog 8 #[.int .i64 (n : Nat), .agg (imA st S ms.length c)] w fun e w' => e = .returned (.bool true) ∧ Below w.heap.size w w' := by
  have HB := startB w
  have HM := Lib.hid hM
  have HX := Lib.hid hx
  have HLT := Lib.hid hL
  have HPP := Lib.hid hP
  have HT : Hid (totS ((ms.drop 0).map SegM.v) = TOT) := Lib.hid hT
  have HTM : Hid (totV (M.drop 0) = TOT) := Lib.hid hTM
  have HXS : Hid (RdSg w S ms) := Lib.hid (hx.small fun m hm => Nat.le_trans ((light_ok3 hL).2.1 m.v (List.mem_map_of_mem hm)) (by decide))
  have HLD : Hid (∀ w2, Below w.heap.size w w2 → Calls Tryd.prog 20 #[.int .i64 (n : Nat), .agg (imA st S ms.length c)] w2 (LoadIs (M, 0) w2)) := Lib.hid (fun w2 hb => by have := load_any (n : Int) st c S ms w2 (HXS.out.below hb) hmx; rwa [hV] at this)
  have HLE : Hid (M.length = n) := Lib.hid hl
  have h600 : ∀ s ∈ ms, s.d.length ≤ 600 := fun s hs => (light_ok3 hL).2.1 s.v (List.mem_map_of_mem hs)
  have H600 := Lib.hid h600
  clear hM hx hL hV hT hTM hP h600
  go_enter Tryd.func8, Tryd.ntmps8
  go_wp2_with (first | (refine wlBox ?_ 25 _ rfl (imA st S ms.length c) rfl ?_; exact rfl; intro gI w1 hg hl ha hb; replace HB := keepB HB hb; have HI := Lib.hid ha; clear ha hb hg hl) | (refine rowLoad ?_ 25 _ rfl gI rfl (cs := imA st S ms.length c) HI.out Tryd.underlying25 rfl infoIm ?_; exact rfl) | (go_at_call 9; refine (light_any st c S ms _ (HX.out.below HB.out.1) hmx hmc).mono ?_; rw [HLT.out]; rintro e w2 ⟨rfl, hb⟩; replace HB := keepB HB hb; replace HI := keepA HI hb; clear hb) | (go_at_call 20; refine (HLD.out _ HB.out.1).mono ?_; clear HLD; rintro e w3 ⟨⟨A, cA, rfl, hrd⟩, hb⟩; have HMR0 := Lib.hid hrd; replace HB := keepB HB hb; replace HI := keepA HI hb; have HMR : Hid (RdA .u8 w3 A n (ints M)) := Lib.hid (by rw [← hl]; exact HMR0.out); clear hb hrd HMR0; rw [show (M, (0 : Nat)).1.length = n from hl]))
  clear hl
  go_loopw [7, 9] (fun s i wr => ∃ (k N : Nat), k ≤ ms.length ∧ i = .int .i64 k ∧ s = .int .i64 N ∧ Hid (N + totS ((ms.drop k).map SegM.v) = TOT) ∧ Hid (RdA .u8 wr A n (ints M)) ∧ Hid (wr.heap[gI]? = some (.cells (imA st S ms.length c) 25 (0, 0))) ∧ Hid (Below w.heap.size w wr ∧ w.heap.size ≤ wr.heap.size)) (fun _ i _ => ms.length - (intOf i).toNat)
  case atStart => exact ⟨0, 0, Nat.zero_le _, by first | trivial | rfl, by first | trivial | rfl, Lib.hid (by rw [Nat.zero_add]; exact HT.out), HMR, HI, HB⟩
  case round =>
    clear HMR HI HB HT
    obtain ⟨k, N, hk, rfl, rfl, HN, HMR, HI, HB⟩ := hrel
    have i1 : wr.cell? ⟨gI, 1, none⟩ = some (.slice S ms.length c) := cellA HI 1
    by_cases hlt : k < ms.length
    · have hn0 : 0 < ms.length := by omega
      obtain ⟨m, hm⟩ : ∃ m, ms[k]? = some m := ⟨_, List.getElem?_eq_getElem hlt⟩
      have HXW := Lib.hid (HX.out.below HB.out.1)
      obtain ⟨b, off, rfl, _, hcc⟩ := HXW.out.1.2.2 hn0
      obtain ⟨a1, a2⟩ := HPP.out m (List.mem_of_getElem? hm)
      have a3 := H600.out m (List.mem_of_getElem? hm)
      have HA2 := Lib.hid a2
      have HN2 : Hid (N + totV (m.d.drop 0) + totS ((ms.drop (k + 1)).map SegM.v) = TOT) := Lib.hid (by have := HN.out; rw [drop_cons hm, List.map_cons, totS] at this; rw [List.drop_zero, Nat.add_assoc]; exact this)
      clear hcc a2 HN
      go_wp2
      clear i1
      go_loopw [7, 10] (fun s j wi => ∃ (q N2 : Nat), q ≤ m.d.length ∧ j = .int .i64 q ∧ s = .int .i64 N2 ∧ Hid (N2 + totV (m.d.drop q) + totS ((ms.drop (k + 1)).map SegM.v) = TOT) ∧ Hid (RdA .u8 wi A n (ints M)) ∧ Hid (wi.heap[gI]? = some (.cells (imA st (some ⟨b, off, none⟩) ms.length c) 25 (0, 0))) ∧ Hid (Below w.heap.size w wi ∧ w.heap.size ≤ wi.heap.size)) (fun _ j _ => m.d.length - (intOf j).toNat)
      case atStart => exact ⟨0, N, Nat.zero_le _, by first | trivial | rfl, by first | trivial | rfl, HN2, HMR, HI, HB⟩
      case round =>
        clear HMR HI HB HN2 HXW
        obtain ⟨q, N2, hq, rfl, rfl, HN2, HMR, HI, HB⟩ := hrel
        have HXW := Lib.hid (HX.out.below HB.out.1)
        obtain ⟨b', off', he, _, hcc⟩ := HXW.out.1.2.2 hn0
        injection he with he
        injection he with e1 e2 _
        subst e1; subst e2
        have f0 : wr.cell? ⟨b, off + k * 2, none⟩ = some (.int .u32 m.at_) := hcc k (sA m) (sA_get hm) 0 _ rfl
        have f1 : wr.cell? ⟨b, off + k * 2 + 1, none⟩ = some (.slice m.D m.d.length m.c) := hcc k (sA m) (sA_get hm) 1 _ rfl
        have i1 : wr.cell? ⟨gI, 1, none⟩ = some (.slice (some ⟨b, off, none⟩) ms.length c) := cellA HI 1
        have hrd := (HXW.out.2 m (List.mem_of_getElem? hm)).2.2.2
        have hat := (HXW.out.2 m (List.mem_of_getElem? hm)).1
        clear hcc
        by_cases hq2 : q < m.d.length
        · obtain ⟨bd, od, hD, hcd⟩ := hrd.2 (by omega)
          obtain ⟨bm, om, hA, hcm⟩ := HMR.out.2 (by omega)
          obtain ⟨x, hx⟩ : ∃ x, m.d[q]? = some x := ⟨_, List.getElem?_eq_getElem hq2⟩
          obtain ⟨p, hp⟩ : ∃ p, m.at_ + q = p := ⟨_, rfl⟩
          have hpn : p < n := by omega
          have e0 : (m.at_ : Int) + (q : Int) = (p : Int) := by omega
          have hge : decide (n ≤ p) = false := decide_eq_false (by omega)
          have g1 : wr.cell? ⟨bd, od + q, none⟩ = some (.int .u8 (x.toNat : Int)) := by rw [hcd q hq2, el_ints hx]
          have g2 : wr.cell? ⟨bm, om + p, none⟩ = some (.int .u8 (x.toNat : Int)) := by rw [hcm p hpn, el_ints (show M[p]? = some x by rw [← hp, HA2.out q hq2]; exact hx)]
          have ht := totV_drop hx
          have hN3 : N2 + x.toNat ≤ 765000 := by have := HN2.out; omega
          have HN3 : Hid (N2 + x.toNat + totV (m.d.drop (q + 1)) + totS ((ms.drop (k + 1)).map SegM.v) = TOT) := Lib.hid (by have := HN2.out; omega)
          rw [hD] at f1
          subst hA
          clear hcd hcm hx hp ht HN2 hrd hD
          go_wp2_with (refine wlIdx ?_ 23 _ _ rfl 51 2 Tryd.underlying23 sizeSeg b off ms.length c k rfl rfl hlt ?_; exact rfl)
          go_region
          have f1' : wr.drew.cell? ⟨b, off + k * 2 + 1, none⟩ = some (.slice (some ⟨bd, od, none⟩) m.d.length m.c) := f1
          have i1' : wr.drew.cell? ⟨gI, 1, none⟩ = some (.slice (some ⟨b, off, none⟩) ms.length c) := i1
          have g1' : wr.drew.cell? ⟨bd, od + q, none⟩ = some (.int .u8 (x.toNat : Int)) := g1
          replace HB := keepB1 HB
          replace HI := keepA1 HI
          replace HMR := Lib.hid (HMR.out.drew 1)
          clear f0 f1 i1 g1 g2
          go_wp2_with (refine wlIdx ?_ 23 _ _ rfl 51 2 Tryd.underlying23 sizeSeg b off ms.length c k rfl rfl hlt ?_; exact rfl)
          go_roundw
          case rel => exact ⟨q + 1, N2 + x.toNat, by omega, by first | trivial | go_num, by first | trivial | go_num, HN3, HMR, HI, HB⟩
          case measure => simp [intOf]; omega
        · obtain rfl : q = m.d.length := by omega
          have HN3 : Hid (N2 + totS ((ms.drop (k + 1)).map SegM.v) = TOT) := Lib.hid (by have := HN2.out; rw [List.drop_eq_nil_of_le (Nat.le_refl _), totV] at this; omega)
          clear HN2 hrd
          go_wp2_with (refine wlIdx ?_ 23 _ _ rfl 51 2 Tryd.underlying23 sizeSeg b off ms.length c k rfl rfl hlt ?_; exact rfl)
          go_roundw
          case rel => exact ⟨k + 1, N2, by omega, by first | trivial | go_num, by first | trivial | go_num, HN3, HMR, HI, HB⟩
          case measure => simp [intOf]; omega
    · obtain rfl : k = ms.length := by omega
      have hN : N = TOT := by have := HN.out; rw [List.drop_eq_nil_of_le (Nat.le_refl _), List.map_nil, totS] at this; omega
      subst hN
      clear HN
      go_wp2
      clear i1
      go_loopw [8, 12] (fun s j wi => ∃ (q N2 : Nat), q ≤ n ∧ j = .int .i64 q ∧ s = .int .i64 N2 ∧ Hid (N2 + totV (M.drop q) = N) ∧ Hid (RdA .u8 wi A n (ints M)) ∧ Hid (Below w.heap.size w wi ∧ w.heap.size ≤ wi.heap.size)) (fun _ j _ => n - (intOf j).toNat)
      case atStart => exact ⟨0, 0, Nat.zero_le _, by first | trivial | rfl, by first | trivial | rfl, Lib.hid (by rw [Nat.zero_add]; exact HTM.out), HMR, HB⟩
      case round =>
        clear HMR HB HI HTM
        obtain ⟨q, N2, hq, rfl, rfl, HN2, HMR, HB⟩ := hrel
        by_cases hq2 : q < n
        · obtain ⟨bm, om, hA, hcm⟩ := HMR.out.2 (by omega)
          obtain ⟨x, hx⟩ : ∃ x, M[q]? = some x := ⟨_, List.getElem?_eq_getElem (by rw [HLE.out]; exact hq2)⟩
          have g2 : wr.cell? ⟨bm, om + q, none⟩ = some (.int .u8 (x.toNat : Int)) := by rw [hcm q hq2, el_ints hx]
          have ht := totV_drop hx
          have hN3 : N2 + x.toNat ≤ 765000 := by have := HN2.out; omega
          have HN3 : Hid (N2 + x.toNat + totV (M.drop (q + 1)) = N) := Lib.hid (by have := HN2.out; omega)
          subst hA
          clear hcm hx ht HN2
          go_wp2
          go_roundw
          case rel => exact ⟨q + 1, N2 + x.toNat, by omega, by first | trivial | go_num, by first | trivial | go_num, HN3, HMR, HB⟩
          case measure => simp [intOf]; omega
        · obtain rfl : q = n := by omega
          have hN2 : N2 = N := by have := HN2.out; rw [List.drop_eq_nil_of_le (by rw [HLE.out]; exact Nat.le_refl _), totV] at this; omega
          subst hN2
          clear HN2
          go_upto_region 21 with fail
          go_wp2_with (go_at_call 10; refine (awake_any m0 _ ((HB.out.1.cell (World.block_lt_of_cell? w _ HM.out)).trans HM.out)).mono ?_; rintro e w9 ⟨rfl, hb⟩; replace HB := keepB HB hb; clear hb)
          go_ret
          exact ⟨rfl, HB.out.1⟩
end Go.Proofs.YtnigkecpiolgeaaDoor.My
/- The law of memory with an image, against the reference: walked. -/
set_option linter.unusedVariables false
set_option linter.unusedSimpArgs false
namespace Go.Proofs.YtnigkecpiolgeaaDoor.My
open Go.RowKit
theorem rload_any (size : Int) (st c : Nat) (S : Option Addr) (ms : List SegM) (w : World) (hx : RdSg w S ms) (hmx : ms.length ≤ 9223372036854775807) : Calls Tryd.prog 21 #[.int .i64 size, .agg (imA st S ms.length c)] w (LoadIs (loadV size (ms.map SegM.v)) w) := by
  unfold loadV
  by_cases h : size.tmod 64 ≠ 0 ∨ size < 64 ∨ 16384 < size
  · rw [if_pos h]
    exact rload_bad size st c S ms w hx hmx h
  · rw [if_neg h]
    obtain ⟨n, rfl⟩ : ∃ n : Nat, size = n := ⟨size.toNat, by omega⟩
    have h0 : (n : Int).tmod 64 = 0 := Classical.byContradiction fun q => h (.inl q)
    have h1 : n % 64 = 0 := by
      rw [Int.tmod_eq_emod_of_nonneg (by omega)] at h0
      omega
    have h2 : 64 ≤ n := by omega
    have h3 : n ≤ 16384 := by omega
    by_cases q : rightV (ms.map SegM.v) = 0
    · rw [if_neg (fun x => x q), Int.toNat_natCast]
      exact rload_good n st c S ms w hx hmx h1 h2 h3 q _ rfl
    · rw [if_pos q]
      exact rload_wrong n st c S ms w hx hmx h1 h2 h3 _ rfl q
theorem loadV_len {size : Int} {ss : List SegV} {M : List UInt8} {F : Nat} (h : loadV size ss = (M, F)) : M.length ≤ 16384 := by
  by_cases hF : F = 0
  · subst hF
    obtain ⟨n, rfl, hn, hr, hR⟩ := loadV_good h
    have := (load_lays hr hR).1
    omega
  · rw [loadV_code h hF]
    exact Nat.zero_le _
set_option maxRecDepth 100000 in
set_option maxHeartbeats 4000000 in
theorem loads_out (size : Int) (st c : Nat) (S : Option Addr) (ms : List SegM) (m : Int) (w : World) (hM : w.cell? ⟨0, 0, none⟩ = some (.int .i64 m)) (hx : RdSgG w S ms) (hmx : ms.length ≤ 9223372036854775807) (hmc : ms.length ≤ c) (hL : lightB (ms.map SegM.v) = false) : Calls Tryd.prog 7 #[.int .i64 size, .agg (imA st S ms.length c)] w fun e w' => e = .returned (.bool true) ∧ Below w.heap.size w w' := by
  have HB := startB w
  have HM := Lib.hid hM
  have HX := Lib.hid hx
  have HLT := Lib.hid hL
  clear hM hx hL
  go_enter Tryd.func7, Tryd.ntmps7
  go_wp2_with (first | (refine wlBox ?_ 25 _ rfl (imA st S ms.length c) rfl ?_; exact rfl; intro gI w1 hg hl ha hb; replace HB := keepB HB hb; have HI := Lib.hid ha; clear ha hb hg hl) | (refine rowLoad ?_ 25 _ rfl gI rfl (cs := imA st S ms.length c) HI.out Tryd.underlying25 rfl infoIm ?_; exact rfl) | (go_at_call 9; refine (light_any st c S ms _ (HX.out.below HB.out.1) hmx hmc).mono ?_; rw [HLT.out]; rintro e w2 ⟨rfl, hb⟩; replace HB := keepB HB hb; replace HI := keepA HI hb; clear hb) | (go_at_call 10; refine (awake_any m _ ((HB.out.1.cell (World.block_lt_of_cell? w _ HM.out)).trans HM.out)).mono ?_; rintro e w9 ⟨rfl, hb⟩; replace HB := keepB HB hb; clear hb))
  go_ret
  exact ⟨rfl, HB.out.1⟩
set_option maxRecDepth 100000 in
set_option maxHeartbeats 4000000 in
theorem loads_in (size : Int) (st c : Nat) (S : Option Addr) (ms : List SegM) (m : Int) (w : World) (hM : w.cell? ⟨0, 0, none⟩ = some (.int .i64 m)) (hx : RdSgG w S ms) (hmx : ms.length ≤ 9223372036854775807) (hmc : ms.length ≤ c) (hL : lightB (ms.map SegM.v) = true) (M : List UInt8) (F : Nat) (hV : loadV size (ms.map SegM.v) = (M, F)) (RV : Nat) (hRV : rightV (ms.map SegM.v) = RV) : Calls Tryd.prog 7 #[.int .i64 size, .agg (imA st S ms.length c)] w fun e w' => e = .returned (.bool true) ∧ Below w.heap.size w w' := by
  have HB := startB w
  have HM := Lib.hid hM
  have HX := Lib.hid hx
  have HLT := Lib.hid hL
  have HXS : Hid (RdSg w S ms) := Lib.hid (hx.small fun m hm => Nat.le_trans ((light_ok3 hL).2.1 m.v (List.mem_map_of_mem hm)) (by decide))
  have HLP : Hid (∀ w2, Below w.heap.size w w2 → Calls Tryd.prog 20 #[.int .i64 size, .agg (imA st S ms.length c)] w2 (LoadIs (M, F) w2)) := Lib.hid (fun w2 hb => by have := load_any size st c S ms w2 (HXS.out.below hb) hmx; rwa [hV] at this)
  have HLR : Hid (∀ w2, Below w.heap.size w w2 → Calls Tryd.prog 21 #[.int .i64 size, .agg (imA st S ms.length c)] w2 (LoadIs (M, F) w2)) := Lib.hid (fun w2 hb => by have := rload_any size st c S ms w2 (HXS.out.below hb) hmx; rwa [hV] at this)
  have HR1 : Hid (∀ w2, Below w.heap.size w w2 → Calls Tryd.prog 18 #[.agg (imA st S ms.length c)] w2 fun e w' => e = .returned (.int .i64 (RV : Nat)) ∧ Below w2.heap.size w2 w') := Lib.hid (fun w2 hb => by have := right_any st c S ms w2 (HXS.out.below hb) hmx; rwa [hRV] at this)
  have HR2 : Hid (∀ w2, Below w.heap.size w w2 → Calls Tryd.prog 23 #[.agg (imA st S ms.length c)] w2 fun e w' => e = .returned (.int .i64 (RV : Nat)) ∧ Below w2.heap.size w2 w') := Lib.hid (fun w2 hb => by have := rright_any st c S ms w2 (HXS.out.below hb) hmx; rwa [hRV] at this)
  have hml := loadV_len hV
  have HBY : Hid (∀ (A1 A2 : Option Addr) (c1 c2 : Nat) (w2 : World), RdA .u8 w2 A1 M.length (ints M) → RdA .u8 w2 A2 M.length (ints M) → Calls Tryd.prog 22 #[.slice A1 M.length c1, .slice A2 M.length c2] w2 fun e w' => e = .returned (.bool true) ∧ Below w2.heap.size w2 w') := Lib.hid (fun A1 A2 c1 c2 w2 h1 h2 => by have := bytesS_any A1 A2 c1 c2 M M w2 h1 h2 (by omega) (by omega); rwa [decide_eq_true rfl] at this)
  clear hM hx hL hV hRV hml HXS
  go_enter Tryd.func7, Tryd.ntmps7
  go_upto_region 5 with (first | (refine wlBox ?_ 25 _ rfl (imA st S ms.length c) rfl ?_; exact rfl; intro gI w1 hg hl ha hb; replace HB := keepB HB hb; have HI := Lib.hid ha; clear ha hb hg hl) | (refine rowLoad ?_ 25 _ rfl gI rfl (cs := imA st S ms.length c) HI.out Tryd.underlying25 rfl infoIm ?_; exact rfl) | (go_at_call 9; refine (light_any st c S ms _ (HX.out.below HB.out.1) hmx hmc).mono ?_; rw [HLT.out]; rintro e w2 ⟨rfl, hb⟩; replace HB := keepB HB hb; replace HI := keepA HI hb; clear hb) | (go_at_call 20; refine (HLP.out _ HB.out.1).mono ?_; clear HLP; rintro e w3 ⟨⟨A, cA, rfl, hrd⟩, hb⟩; have HM1 := Lib.hid hrd; replace HB := keepB HB hb; replace HI := keepA HI hb; clear hb hrd) | (go_at_call 21; refine (HLR.out _ HB.out.1).mono ?_; clear HLR; rintro e w4 ⟨⟨A2, cA2, rfl, hrd⟩, hb⟩; have HM2 := Lib.hid hrd; replace HM1 := Lib.hid (HM1.out.below hb); replace HB := keepB HB hb; replace HI := keepA HI hb; clear hb hrd))
  replace HM1 := Lib.hid (HM1.out.drew 1)
  replace HM2 := Lib.hid (HM2.out.drew 1)
  replace HB := keepB1 HB
  replace HI := keepA1 HI
  refine rgStart (S := (fun w' => w'.heap[gI]? = some (.cells (imA st S ms.length c) 25 (0, 0)))) (n := 19) #[false, false, false, false, false, false, false, false, false, false, false, false, false, false, false, false, false, false, false] (by kernel_rfl) rfl rfl HI.out (fun hHeld => ?_)
  refine rgTake (i := 0) (N := some 25) (oi := { dst := some 25, op := Op.move (Operand.tmp 5), type := 26, pos := "law.go:40", after := #[], guard := none }) (v := ?_) #[true, false, false, false, false, false, false, false, false, false, false, false, false, false, false, false, false, false, false] rfl rfl (by kernel_rfl) (fun _ _ _ h => h) (Or.inl ⟨by rfl, ?_⟩) hHeld ?_
  rotate_left
  · intro w' hSw; (try dsimp only at hSw); skip; go_simp; try with_reducible rfl
  simp only [Act.put, List.setIfInBounds_toArray, List.set_cons_zero, List.set_cons_succ]
  refine rgTake (i := 1) (N := some 26) (oi := { dst := some 26, op := Op.move (Operand.tmp 7), type := 26, pos := "law.go:40", after := #[], guard := none }) (v := ?_) #[true, true, false, false, false, false, false, false, false, false, false, false, false, false, false, false, false, false, false] rfl rfl (by kernel_rfl) (fun _ _ _ h => h) (Or.inl ⟨by rfl, ?_⟩) hHeld ?_
  rotate_left
  · intro w' hSw; (try dsimp only at hSw); skip; go_simp; try with_reducible rfl
  simp only [Act.put, List.setIfInBounds_toArray, List.set_cons_zero, List.set_cons_succ]
  refine rgCall (i := 2) (N := some 27) (oi := { dst := some 27, op := Op.call { callee := Callee.value (Operand.func 22), args := #[Operand.tmp 25, Operand.tmp 26], argTypes := #[26, 26] }, type := 4, pos := "law.go:40", after := #[{ on := 0, ground := Ground.data }, { on := 1, ground := Ground.data }], guard := none }) #[true, true, true, false, false, false, false, false, false, false, false, false, false, false, false, false, false, false, false] rfl rfl (by kernel_rfl) (fun K hK => ?_)
  go_simp
  (go_at_call 22; refine (HBY.out _ _ _ _ _ HM1.out HM2.out).mono ?_; clear HBY HM1 HM2; rintro e w5 ⟨rfl, hb⟩; replace HB := keepB HB hb; replace HI := keepA HI hb; clear hb)
  refine hK.out _ _ HI.out (fun hHeld => ?_)
  (try simp only [Act.put, List.setIfInBounds_toArray, List.set_cons_zero, List.set_cons_succ])
  clear hK K
  refine rgTake (i := 3) (N := some 28) (oi := { dst := some 28, op := Op.move (Operand.tmp 27), type := 4, pos := "law.go:40", after := #[{ on := 2, ground := Ground.data }, { on := 2, ground := Ground.chain }], guard := none }) (v := ?_) #[true, true, true, true, false, false, false, false, false, false, false, false, false, false, false, false, false, false, false] rfl rfl (by kernel_rfl) (fun _ _ _ h => h) (Or.inl ⟨by rfl, ?_⟩) hHeld ?_
  rotate_left
  · intro w' hSw; (try dsimp only at hSw); skip; go_simp; try with_reducible rfl
  simp only [Act.put, List.setIfInBounds_toArray, List.set_cons_zero, List.set_cons_succ]
  refine rgTake (i := 4) (N := some 29) (oi := { dst := some 29, op := Op.move (Operand.tmp 6), type := 32, pos := "law.go:40", after := #[{ on := 3, ground := Ground.guard }], guard := some (3, true) }) (v := ?_) #[true, true, true, true, true, false, false, false, false, false, false, false, false, false, false, false, false, false, false] rfl rfl (by kernel_rfl) (fun _ _ _ h => h) (Or.inl ⟨by rfl, ?_⟩) hHeld ?_
  rotate_left
  · intro w' hSw; (try dsimp only at hSw); skip; go_simp; try with_reducible rfl
  simp only [Act.put, List.setIfInBounds_toArray, List.set_cons_zero, List.set_cons_succ]
  refine rgTake (i := 5) (N := some 30) (oi := { dst := some 30, op := Op.move (Operand.tmp 8), type := 3, pos := "law.go:40", after := #[{ on := 3, ground := Ground.guard }], guard := some (3, true) }) (v := ?_) #[true, true, true, true, true, true, false, false, false, false, false, false, false, false, false, false, false, false, false] rfl rfl (by kernel_rfl) (fun _ _ _ h => h) (Or.inl ⟨by rfl, ?_⟩) hHeld ?_
  rotate_left
  · intro w' hSw; (try dsimp only at hSw); skip; go_simp; try with_reducible rfl
  simp only [Act.put, List.setIfInBounds_toArray, List.set_cons_zero, List.set_cons_succ]
  refine rgTake (i := 6) (N := some 31) (oi := { dst := some 31, op := Op.binOp BinOp.eql 3 (Operand.tmp 29) (Operand.tmp 30) 3, type := 4, pos := "law.go:40", after := #[{ on := 4, ground := Ground.data }, { on := 5, ground := Ground.data }, { on := 3, ground := Ground.guard }], guard := some (3, true) }) (v := ?_) #[true, true, true, true, true, true, true, false, false, false, false, false, false, false, false, false, false, false, false] rfl rfl (by kernel_rfl) (fun _ _ _ h => h) (Or.inl ⟨by rfl, ?_⟩) hHeld ?_
  rotate_left
  · intro w' hSw; (try dsimp only at hSw); skip; go_simp; try with_reducible rfl
  simp only [Act.put, List.setIfInBounds_toArray, List.set_cons_zero, List.set_cons_succ]
  refine rgTake (i := 7) (N := some 32) (oi := { dst := some 32, op := Op.pick (Operand.tmp 28) (Operand.tmp 31) (Operand.const (Value.bool false)), type := 4, pos := "law.go:40", after := #[{ on := 3, ground := Ground.data }, { on := 6, ground := Ground.data }], guard := none }) (v := ?_) #[true, true, true, true, true, true, true, true, false, false, false, false, false, false, false, false, false, false, false] rfl rfl (by kernel_rfl) (fun _ _ _ h => h) (Or.inl ⟨by rfl, ?_⟩) hHeld ?_
  rotate_left
  · intro w' hSw; (try dsimp only at hSw); skip; go_simp; try with_reducible rfl
  simp only [Act.put, List.setIfInBounds_toArray, List.set_cons_zero, List.set_cons_succ]
  refine rgTake (i := 8) (N := some 33) (oi := { dst := some 33, op := Op.move (Operand.tmp 32), type := 4, pos := "law.go:40", after := #[{ on := 7, ground := Ground.data }, { on := 3, ground := Ground.chain }], guard := none }) (v := ?_) #[true, true, true, true, true, true, true, true, true, false, false, false, false, false, false, false, false, false, false] rfl rfl (by kernel_rfl) (fun _ _ _ h => h) (Or.inl ⟨by rfl, ?_⟩) hHeld ?_
  rotate_left
  · intro w' hSw; (try dsimp only at hSw); skip; go_simp; try with_reducible rfl
  simp only [Act.put, List.setIfInBounds_toArray, List.set_cons_zero, List.set_cons_succ]
  refine rgTake (i := 9) (N := some 34) (oi := { dst := some 34, op := Op.load 25 (Operand.tmp 3), type := 25, pos := "law.go:40", after := #[{ on := 8, ground := Ground.guard }], guard := some (8, true) }) (v := _) #[true, true, true, true, true, true, true, true, true, true, false, false, false, false, false, false, false, false, false] rfl rfl (by kernel_rfl) (fun _ _ _ h => h) (yieldsRow (by rfl) _ _ rfl _ rfl (fun _ h => h) Tryd.underlying25 rfl infoIm) hHeld ?_
  simp only [Act.put, List.setIfInBounds_toArray, List.set_cons_zero, List.set_cons_succ]
  refine rgTake (i := 11) (N := some 36) (oi := { dst := some 36, op := Op.load 25 (Operand.tmp 3), type := 25, pos := "law.go:40", after := #[{ on := 8, ground := Ground.guard }], guard := some (8, true) }) (v := _) #[true, true, true, true, true, true, true, true, true, true, false, true, false, false, false, false, false, false, false] rfl rfl (by kernel_rfl) (fun _ _ _ h => h) (yieldsRow (by rfl) _ _ rfl _ rfl (fun _ h => h) Tryd.underlying25 rfl infoIm) hHeld ?_
  simp only [Act.put, List.setIfInBounds_toArray, List.set_cons_zero, List.set_cons_succ]
  refine rgCall (i := 10) (N := some 35) (oi := { dst := some 35, op := Op.call { callee := Callee.value (Operand.func 18), args := #[Operand.tmp 34], argTypes := #[25] }, type := 32, pos := "law.go:40", after := #[{ on := 9, ground := Ground.data }, { on := 8, ground := Ground.chain }, { on := 8, ground := Ground.guard }], guard := some (8, true) }) #[true, true, true, true, true, true, true, true, true, true, true, true, false, false, false, false, false, false, false] rfl rfl (by kernel_rfl) (fun K hK => ?_)
  go_simp
  (go_at_call 18; refine (HR1.out _ HB.out.1).mono ?_; clear HR1; rintro e w6 ⟨rfl, hb⟩; replace HB := keepB HB hb; replace HI := keepA HI hb; clear hb)
  refine hK.out _ _ HI.out (fun hHeld => ?_)
  (try simp only [Act.put, List.setIfInBounds_toArray, List.set_cons_zero, List.set_cons_succ])
  clear hK K
  refine rgCall (i := 12) (N := some 37) (oi := { dst := some 37, op := Op.call { callee := Callee.value (Operand.func 23), args := #[Operand.tmp 36], argTypes := #[25] }, type := 3, pos := "law.go:40", after := #[{ on := 11, ground := Ground.data }, { on := 10, ground := Ground.chain }, { on := 8, ground := Ground.guard }], guard := some (8, true) }) #[true, true, true, true, true, true, true, true, true, true, true, true, true, false, false, false, false, false, false] rfl rfl (by kernel_rfl) (fun K hK => ?_)
  go_simp
  (go_at_call 23; refine (HR2.out _ HB.out.1).mono ?_; clear HR2; rintro e w7 ⟨rfl, hb⟩; replace HB := keepB HB hb; replace HI := keepA HI hb; clear hb)
  refine hK.out _ _ HI.out (fun hHeld => ?_)
  (try simp only [Act.put, List.setIfInBounds_toArray, List.set_cons_zero, List.set_cons_succ])
  clear hK K
  refine rgTake (i := 13) (N := some 38) (oi := { dst := some 38, op := Op.binOp BinOp.eql 3 (Operand.tmp 35) (Operand.tmp 37) 3, type := 4, pos := "law.go:40", after := #[{ on := 10, ground := Ground.data }, { on := 12, ground := Ground.data }, { on := 8, ground := Ground.guard }], guard := some (8, true) }) (v := ?_) #[true, true, true, true, true, true, true, true, true, true, true, true, true, true, false, false, false, false, false] rfl rfl (by kernel_rfl) (fun _ _ _ h => h) (Or.inl ⟨by rfl, ?_⟩) hHeld ?_
  rotate_left
  · intro w' hSw; (try dsimp only at hSw); skip; go_simp; try with_reducible rfl
  simp only [Act.put, List.setIfInBounds_toArray, List.set_cons_zero, List.set_cons_succ]
  refine rgTake (i := 14) (N := some 39) (oi := { dst := some 39, op := Op.pick (Operand.tmp 33) (Operand.tmp 38) (Operand.const (Value.bool false)), type := 4, pos := "law.go:40", after := #[{ on := 8, ground := Ground.data }, { on := 13, ground := Ground.data }], guard := none }) (v := ?_) #[true, true, true, true, true, true, true, true, true, true, true, true, true, true, true, false, false, false, false] rfl rfl (by kernel_rfl) (fun _ _ _ h => h) (Or.inl ⟨by rfl, ?_⟩) hHeld ?_
  rotate_left
  · intro w' hSw; (try dsimp only at hSw); skip; go_simp; try with_reducible rfl
  simp only [Act.put, List.setIfInBounds_toArray, List.set_cons_zero, List.set_cons_succ]
  refine rgTake (i := 15) (N := some 40) (oi := { dst := some 40, op := Op.move (Operand.tmp 39), type := 4, pos := "law.go:40", after := #[{ on := 14, ground := Ground.data }, { on := 12, ground := Ground.chain }], guard := none }) (v := ?_) #[true, true, true, true, true, true, true, true, true, true, true, true, true, true, true, true, false, false, false] rfl rfl (by kernel_rfl) (fun _ _ _ h => h) (Or.inl ⟨by rfl, ?_⟩) hHeld ?_
  rotate_left
  · intro w' hSw; (try dsimp only at hSw); skip; go_simp; try with_reducible rfl
  simp only [Act.put, List.setIfInBounds_toArray, List.set_cons_zero, List.set_cons_succ]
  refine rgCall (i := 16) (N := some 41) (oi := { dst := some 41, op := Op.call { callee := Callee.value (Operand.func 10), args := #[], argTypes := #[] }, type := 4, pos := "law.go:40", after := #[{ on := 15, ground := Ground.chain }, { on := 15, ground := Ground.guard }], guard := some (15, true) }) #[true, true, true, true, true, true, true, true, true, true, true, true, true, true, true, true, true, false, false] rfl rfl (by kernel_rfl) (fun K hK => ?_)
  go_simp
  (go_at_call 10; refine (awake_any m _ ((HB.out.1.cell (World.block_lt_of_cell? w _ HM.out)).trans HM.out)).mono ?_; rintro e w9 ⟨rfl, hb⟩; replace HB := keepB HB hb; replace HI := keepA HI hb; clear hb)
  refine hK.out _ _ HI.out (fun hHeld => ?_)
  (try simp only [Act.put, List.setIfInBounds_toArray, List.set_cons_zero, List.set_cons_succ])
  clear hK K
  refine rgTake (i := 17) (N := some 42) (oi := { dst := some 42, op := Op.pick (Operand.tmp 40) (Operand.tmp 41) (Operand.const (Value.bool false)), type := 4, pos := "law.go:40", after := #[{ on := 15, ground := Ground.data }, { on := 16, ground := Ground.data }], guard := none }) (v := ?_) #[true, true, true, true, true, true, true, true, true, true, true, true, true, true, true, true, true, true, false] rfl rfl (by kernel_rfl) (fun _ _ _ h => h) (Or.inl ⟨by rfl, ?_⟩) hHeld ?_
  rotate_left
  · intro w' hSw; (try dsimp only at hSw); skip; go_simp; try with_reducible rfl
  simp only [Act.put, List.setIfInBounds_toArray, List.set_cons_zero, List.set_cons_succ]
  refine rgTake (i := 18) (N := some 4) (oi := { dst := some 4, op := Op.assign (Operand.tmp 42), type := 4, pos := "law.go:40", after := #[{ on := 17, ground := Ground.data }, { on := 16, ground := Ground.chain }, { on := 0, ground := Ground.phase }, { on := 1, ground := Ground.phase }, { on := 2, ground := Ground.phase }, { on := 3, ground := Ground.phase }, { on := 4, ground := Ground.phase }, { on := 5, ground := Ground.phase }, { on := 6, ground := Ground.phase }, { on := 7, ground := Ground.phase }, { on := 8, ground := Ground.phase }, { on := 9, ground := Ground.phase }, { on := 10, ground := Ground.phase }, { on := 11, ground := Ground.phase }, { on := 12, ground := Ground.phase }, { on := 13, ground := Ground.phase }, { on := 14, ground := Ground.phase }, { on := 15, ground := Ground.phase }, { on := 16, ground := Ground.phase }, { on := 17, ground := Ground.phase }], guard := none }) (v := ?_) #[true, true, true, true, true, true, true, true, true, true, true, true, true, true, true, true, true, true, true] rfl rfl (by kernel_rfl) (fun _ _ _ h => h) (Or.inl ⟨by rfl, ?_⟩) hHeld ?_
  rotate_left
  · intro w' hSw; (try dsimp only at hSw); skip; go_simp; try with_reducible rfl
  simp only [Act.put, List.setIfInBounds_toArray, List.set_cons_zero, List.set_cons_succ]
  refine rgDone (by kernel_rfl) ?_ _
  go_wp2
  go_ret
  exact ⟨rfl, HB.out.1⟩
end Go.Proofs.YtnigkecpiolgeaaDoor.My
set_option linter.unusedVariables false
set_option linter.unusedSimpArgs false
namespace Go.Proofs.YtnigkecpiolgeaaDoor.My
open Go.RowKit
theorem loads_any (size : Int) (st c : Nat) (S : Option Addr) (ms : List SegM) (m : Int) (w : World) (hM : w.cell? ⟨0, 0, none⟩ = some (.int .i64 m)) (hx : RdSgG w S ms) (hmx : ms.length ≤ 9223372036854775807) (hmc : ms.length ≤ c) :
    Calls Tryd.prog 7 #[.int .i64 size, .agg (imA st S ms.length c)] w fun e w' => e = .returned (.bool true) ∧ Below w.heap.size w w' := by
  by_cases hL : lightB (ms.map SegM.v) = true
  · obtain ⟨⟨M, F⟩, hV⟩ : ∃ R, loadV size (ms.map SegM.v) = R := ⟨_, rfl⟩
    exact loads_in size st c S ms m w hM hx hmx hmc hL M F hV _ rfl
  · exact loads_out size st c S ms m w hM hx hmx hmc (by simpa using hL)
end Go.Proofs.YtnigkecpiolgeaaDoor.My
namespace Go.Proofs.YtnigkecpiolgeaaDoor
open Go.ChangeShapes Go.WideShapes Go.ChangeAt Go.RowKit My
theorem own_RomLoads : ownKnob Tryd.prog.godebug = none := by kernel_rfl
theorem laidOut_RomLoads : laidOutB Tryd.prog = true := by kernel_rfl
noncomputable def laid_RomLoads : List (String × DataW Unit) := [("unicode/utf8.acceptRanges", Rows.laid_unicode_utf8_acceptRanges), ("unicode/utf8.first", Rows.laid_unicode_utf8_first)]
set_option maxRecDepth 100000 in
theorem lifted_RomLoads (os : Os) (started : os.Started) (H : Type) (enc : TypeId × Value → H) :
    ReturnsInHanded {} Tryd.checked os 7 .any (fun w args => (Rows.romLoadsSpec.pre enc Tryd.prog Tryd.f7 [] false w args ∧ laidMetH Tryd.prog laid_RomLoads w) ∧ sizedMet enc Tryd.prog Tryd.f7 (OpenSpec.ofChange Rows.romLoadsSpec) false w args) (Rows.romLoadsSpec.post enc Tryd.prog Tryd.f7 false true false false) := by
  refine handed_shaped (C := Tryd.checked) (X := fun w _ => laidMetH Tryd.prog laid_RomLoads w) (fun _ _ _ hh h => h.of_heap hh) own_RomLoads started (by kernel_rfl) Tryd.func7
    (ChangeSpec.witness_shaped (enc := enc) (C := Tryd.checked) (os := os) (X := fun w _ => laidMetH Tryd.prog laid_RomLoads w) false (World.laidAll Tryd.prog os laid_RomLoads) #[.int .i64 0, .agg #[.int .u32 0, .slice none 0 0]] 8 (World.laidAll_os _ _ _)
      (World.shaped_of_ZipB (by kernel_rfl) (by kernel_rfl)) (by kernel_rfl) (by kernel_rfl) (by kernel_rfl)
      (by rw [MakeChecks.laidMetH_plain _ _ _ (by kernel_rfl)]; exact laidMet_laidAll _ (by kernel_rfl) (by kernel_rfl))) ?_
  intro W base args ds gs before hval0 hW hcnd hsz0 hsh _ _
  obtain ⟨mx, hmx⟩ := Tryd.maxLen_cell W hsh
  have hsz : (DataW.weightsEach Tryd.prog (Tryd.f7.params.toList ++ Rows.romLoadsSpec.plain.varTypes Tryd.prog) (ds ++ gs)).all (· ≤ reachBytes) = true := hsz0
  have hval : ∀ (j : Nat) t v, Tryd.f7.params[j]? = some t → args[j]? = some v → Value.okWide Tryd.prog W .any base t v := hval0
  have hW' := hW
  obtain ⟨p, q, hA0, hV, rfl, hfz, hnd⟩ := hW
  have hA : DataW.TrodAll enc Tryd.prog W 0 (fun _ => true) true Tryd.f7.params.toList args.toList ds p := hA0
  rw [Tryd.params7] at hA hval hsz
  obtain ⟨v0, vs0, d0, ds0, p0, q0, hargs, rfl, rfl, h0, r0⟩ := trodAll_cons hA
  obtain ⟨v1, vs1, d1, ds1, p1, q1, rfl, rfl, rfl, h1, r1⟩ := trodAll_cons r0
  obtain ⟨rfl, rfl, rfl⟩ := trodAll_nil r1
  obtain rfl : args = #[v0, v1] := by cases args; simp_all
  obtain ⟨rfl, rfl⟩ := trodVars_none hV
  have ok0 := hval 0 3 v0 rfl rfl
  have ok1 := hval 1 25 v1 rfl rfl
  have lt0 : ∀ x ∈ p0, x.block < W.heap.size := fun x hx => by simpa using hW'.lt x (by simp [hx])
  have lt1 : ∀ x ∈ p1, x.block < W.heap.size := fun x hx => by simpa using hW'.lt x (by simp [hx])
  clear hA0 hval0 hsz0
  obtain ⟨a0, rfl, rfl, rfl, w0⟩ := open_int Tryd.underlying3 ok0 h0; obtain ⟨st, S, ms, c, rfl, hst, hx, hm1, hm2⟩ := open_image ok1 h1
  refine (loads_any a0 st c S ms mx W hmx hx hm1 hm2).mono fun e W' ⟨he, bel⟩ => ?_
  subst he
  exact ⟨_, rfl, _, _, _, [], _, [], hW', trodAll_mk1 (shut_bool Tryd.underlying4 _), (trodAll_cons_mk (Below.trod laidOut_RomLoads (by kernel_rfl) (of_decide_eq_true (by kernel_rfl)) h0 bel lt0) (trodAll_cons_mk (Below.trod laidOut_RomLoads (by kernel_rfl) (of_decide_eq_true (by kernel_rfl)) h1 bel lt1) trodAll_mk0)), rfl, bel.frame _, fun h => by cases h⟩
theorem romLoads_holds : Rows.RomLoadsSaid :=
  OpenClaim.holds_of_wide 7 Tryd.f7 rfl rfl rfl rfl rfl rfl rfl ⟨rfl, rfl, rfl, rfl, rfl⟩ rfl rfl rfl rfl rfl (by kernel_rfl) Tryd.func7 (by kernel_rfl)
    (of_decide_eq_true (by kernel_rfl)) (by unfold Func.isWrapper; first | (rw [if_pos (by decide +kernel)]; kernel_rfl) | (rw [if_neg (by decide +kernel)]; exact ⟨rfl, rfl⟩))
    (fun os started H enc _ => lifted_RomLoads os started H enc)
#print axioms romLoads_holds
theorem card_romLoads : Rows.RomLoadsCardSaid :=
  Claim7.holds_tied_plain_at .later [] [.data, .pinned] true (true, "ef81543063f4ba5f1c774ca9fdd4416c8adb239c719eeecd79f77349a7be26b1") false
    romLoads_holds (fun _ h => by cases h) (by kernel_rfl) (fun _ h => by cases h) romLoads_row_tie rfl ⟨rfl, rfl⟩ (by kernel_rfl) rfl
    (fun f fn hf hfn => by
      obtain rfl : f = 7 := Option.some.inj ((show Tryd.prog.funcNamed "cotterel/cotterellaw09.RomLoads" = some 7 by kernel_rfl).symm.trans hf) |>.symm
      obtain rfl : fn = Tryd.f7 := (Option.some.inj (Tryd.func7.symm.trans hfn)).symm
      exact ⟨by kernel_rfl, fun j t ht => by
        rw [Tryd.params7] at ht
        have hm : t ∈ [3, 25] := by simpa using Array.mem_of_getElem? ht
        have hall : ([3, 25].all fun u => !Tryd.prog.wantsStandIn u) = true := by kernel_rfl
        exact (show Tryd.prog.wantsStandIn t = false by simpa using List.all_eq_true.1 hall t hm)⟩)
    (by kernel_rfl)
#print axioms card_romLoads
end Go.Proofs.YtnigkecpiolgeaaDoor
