/- Walk: a line's error behind an image: the reference's. -/
import Derived.Test.YtnigkecpiolgeaaDoorRomReadA
import Derived.Test.YtnigkecpiolgeaaDoorRomGd
set_option linter.unusedVariables false
set_option linter.unusedSimpArgs false
namespace Go.Proofs.YtnigkecpiolgeaaDoor.My
open Go.RowKit
theorem zeroSg (w : World) : (zeroValue 51).run Tryd.prog w = .ok (.agg #[.int .u32 0, .slice none 0 0]) w := by kernel_rfl
theorem end_at {ms : List SegM} {k : Nat} {m : SegM} (h : ms[k]? = some m) (hk : ms.length = k + 1) : endV (ms.map SegM.v) = m.at_ + m.d.length := by
  unfold endV
  have : (ms.map SegM.v).getLast? = some m.v := by
    rw [List.getLast?_eq_getElem?, List.length_map, hk, Nat.add_sub_cancel, List.getElem?_map, h]; rfl
  rw [this]
  rfl
set_option maxRecDepth 100000 in
set_option maxHeartbeats 8000000 in
theorem more_any (st c : Nat) (S : Option Addr) (ms : List SegM) (last x : RowV) (Al Ax : Option Addr) (cl cx : Nat) (w : World) (hS : RdSg w S ms) (hm : ms.length ≤ 64)
    (hr : RdA .u8 w Ax x.b.length (ints x.b)) (h0 : x.b.length = 0 → Ax = none ∧ cx = 0) (hx : RowOk x) (hl : last.kind ≤ 3) (hl2 : last.at_ < 4294967296) (hl3 : last.b.length ≤ 16) (hla : last.kind = 1 ∨ last.kind = 2 → last.at_ ≤ 16384) (M : Nat) (hM : moreV (ms.map SegM.v) last x = M) :
    Calls Tryd.prog 36 #[.agg (imA st S ms.length c), .agg (rowA last.kind last.at_ (.slice Al last.b.length cl) last.sum), .agg (rowA x.kind x.at_ (.slice Ax x.b.length cx) x.sum)] w fun e w' => e = .returned (.int .i64 (M : Nat)) ∧ Below w.heap.size w w' := by
  obtain ⟨xk, u, d, s⟩ := x
  obtain ⟨lk, ul, dl, sl⟩ := last
  obtain ⟨hx1, hu, hs⟩ := hx
  simp only at hx1 hu hs hr h0 hl hl2 hl3 hla hM ⊢
  have hd : d.length ≤ 1000000 := by rcases hx1 with ⟨_, _, h⟩ | ⟨_, h⟩; omega; rw [h]; decide
  have hxk : xk = 1 ∨ xk = 2 ∨ xk = 3 := by omega
  have HB := startB w
  have HSG := Lib.hid hS
  have HRX := Lib.hid hr
  have HH0 := Lib.hid h0
  have HM := Lib.hid hM
  clear hS hr h0 hM hx1
  go_enter Tryd.func36, Tryd.ntmps36
  refine wp_seq_k fun K1 hK1 => ?_
  go_cut [3, 4, 5, 6] from 8 to 8 (fun s3 s4 s5 s6 wx => ∃ gI gL gX : Nat, s3 = .pointer (some ⟨gI, 0, none⟩) ∧ s4 = .pointer (some ⟨gL, 0, none⟩) ∧ s5 = .pointer (some ⟨gX, 0, none⟩) ∧ s6 = .int .i64 0 ∧ Hid (wx.heap[gI]? = some (.cells (imA st S ms.length c) 25 (0, 0))) ∧ Hid (wx.heap[gL]? = some (.cells (rowA lk ul (.slice Al dl.length cl) sl) 76 (0, 0))) ∧ Hid (wx.heap[gX]? = some (.cells (rowA xk u (.slice Ax d.length cx) s) 76 (0, 0))) ∧ Hid (Below w.heap.size w wx ∧ w.heap.size ≤ wx.heap.size))
  case first =>
    go_wp2_with (first | (refine wlBox (by rfl) 25 _ rfl (imA st S ms.length c) rfl ?_; intro gI w1 hg hl ha hb; replace HB := keepB HB hb; have HI := Lib.hid ha; clear ha hb hg hl) | (refine wlBox (by rfl) 76 _ rfl (rowA lk ul (.slice Al dl.length cl) sl) rfl ?_; intro gL w2 hg hl ha hb; replace HB := keepB HB hb; replace HI := keepA HI hb; have HL := Lib.hid ha; clear ha hb hg hl) | (refine wlBox (by rfl) 76 _ rfl (rowA xk u (.slice Ax d.length cx) s) rfl ?_; intro gX w3 hg hl ha hb; replace HB := keepB HB hb; replace HI := keepA HI hb; replace HL := keepA HL hb; have HX := Lib.hid ha; clear ha hb hg hl))
    go_meet
    exact ⟨gI, gL, gX, rfl, rfl, rfl, rfl, HI, HL, HX, HB⟩
  case rest =>
    clear HB
    obtain ⟨gI, gL, gX, rfl, rfl, rfl, rfl, HI, HL, HX, HB⟩ := hcut
    refine hK1 _ _ (wp_seq_k fun K2 hK2 => ?_)
    clear hK1 K1
    obtain ⟨wr, rfl⟩ : ∃ z, z = wc := ⟨wc, rfl⟩
    have x0 : wr.cell? ⟨gX, 0, none⟩ = some (.int .i64 xk) := cellA HX 0; have x1 : wr.cell? ⟨gX, 1, none⟩ = some (.int .u32 u) := cellA HX 1; have x2 : wr.cell? ⟨gX, 2, none⟩ = some (.slice Ax d.length cx) := cellA HX 2; have x3 : wr.cell? ⟨gX, 3, none⟩ = some (.int .u8 s) := cellA HX 3; have l0 : wr.cell? ⟨gL, 0, none⟩ = some (.int .i64 lk) := cellA HL 0; have l1 : wr.cell? ⟨gL, 1, none⟩ = some (.int .u32 ul) := cellA HL 1; have l2 : wr.cell? ⟨gL, 2, none⟩ = some (.slice Al dl.length cl) := cellA HL 2; have i1 : wr.cell? ⟨gI, 1, none⟩ = some (.slice S ms.length c) := cellA HI 1
    have h1 : ¬ xk = 0 := by omega
    have a0 : ((xk : Int) == 0) = false := beq_eq_false_iff_ne.2 (by omega)
    go_cut [] from 8 to 15 (fun wx => wr = wx ∧ lk ≠ 3)
    case first =>
      by_cases k3 : lk = 3
      · have e : M = 2 := by rw [← HM.out]; unfold moreV; exact if_pos (.inr k3)
        subst e
        have a3 : ((lk : Int) == 3) = true := beq_iff_eq.2 (by omega)
        clear k3
        go_wp2; go_ret; exact ⟨rfl, HB.out.1⟩
      · have a3 : ((lk : Int) == 3) = false := beq_eq_false_iff_ne.2 (by omega)
        go_wp2
        go_meet
        exact ⟨rfl, k3⟩
    case rest =>
      obtain ⟨rfl, k3⟩ := hcut
      have m1 : ¬ (xk = 0 ∨ lk = 3) := by omega
      refine hK2 _ _ (wp_seq_k fun K1 hK1 => ?_)
      clear hK2 K2
      go_cut [] from 16 to 37 (fun wx => wr = wx ∧ (xk = 2 → lk ≠ 0 ∧ dl.length = 16 ∧ ul + 16 = u))
      case first =>
        by_cases j2 : xk = 2
        · have b2 : ((xk : Int) == 2) = true := beq_iff_eq.2 (by omega)
          by_cases j0 : lk = 0
          · have e : M = 2 := by rw [← HM.out]; unfold moreV; exact (if_neg m1).trans (if_pos ⟨j2, fun q => q.1 j0⟩)
            subst e
            have b3 : ((lk : Int) == 0) = true := beq_iff_eq.2 (by omega)
            clear j0 j2
            go_wp2; go_ret; exact ⟨rfl, HB.out.1⟩
          have hul := hla (by omega)
          have b3 : ((lk : Int) == 0) = false := beq_eq_false_iff_ne.2 (by omega)
          by_cases j16 : dl.length = 16
          rotate_left
          · have e : M = 2 := by rw [← HM.out]; unfold moreV; exact (if_neg m1).trans (if_pos ⟨j2, fun q => j16 q.2.1⟩)
            subst e
            have b4 : ((dl.length : Int) != 16) = true := bne_iff_ne.2 (by omega)
            clear j16 j2
            go_wp2; go_ret; exact ⟨rfl, HB.out.1⟩
          have b4 : ((dl.length : Int) != 16) = false := by rw [j16]; rfl
          have HJ := Lib.hid j16
          by_cases ja : ul + 16 = u
          · have b5 : ((u : Int) != (ul : Int) + 16) = false := by rw [← ja]; exact bne_eq_false_iff_eq.2 (by omega)
            have HJA := Lib.hid ja
            clear j16 ja
            go_wp2
            go_meet
            exact ⟨rfl, fun _ => ⟨j0, HJ.out, HJA.out⟩⟩
          · have e : M = 2 := by rw [← HM.out]; unfold moreV; exact (if_neg m1).trans (if_pos ⟨j2, fun q => ja q.2.2⟩)
            subst e
            have b5 : ((u : Int) != (ul : Int) + 16) = true := bne_iff_ne.2 (by omega)
            clear j16 j2
            go_wp2; go_ret; exact ⟨rfl, HB.out.1⟩
        · have b2 : ((xk : Int) == 2) = false := beq_eq_false_iff_ne.2 (by omega)
          go_wp2
          go_meet
          exact ⟨rfl, fun q => absurd q j2⟩
      case rest =>
        obtain ⟨rfl, hgo⟩ := hcut
        have m2 : ¬ (xk = 2 ∧ ¬ (lk ≠ 0 ∧ dl.length = 16 ∧ ul + 16 = u)) := fun q => q.2 (hgo q.1)
        have M2 := Lib.hid m2
        clear hgo m2
        refine hK1 _ _ (wp_seq_k fun K2 hK2 => ?_)
        clear hK1 K1
        go_cut [] from 38 to 45 (fun wx => Hid (wx.heap[gI]? = some (.cells (imA st S ms.length c) 25 (0, 0))) ∧ Hid (wx.heap[gL]? = some (.cells (rowA lk ul (.slice Al dl.length cl) sl) 76 (0, 0))) ∧ Hid (wx.heap[gX]? = some (.cells (rowA xk u (.slice Ax d.length cx) s) 76 (0, 0))) ∧ Hid (Below w.heap.size w wx ∧ w.heap.size ≤ wx.heap.size) ∧ Hid (¬ ckV u d ≠ s))
        case first =>
          obtain ⟨ck, hck⟩ : ∃ ck, ckV u d = ck := ⟨_, rfl⟩
          have hckl : ck < 256 := by rw [← hck]; exact ckV_lt u d
          have HCK := Lib.hid hck
          clear hck x0 x1 x2 x3 l0 l1 l2 i1
          replace HI := keepA1 HI
          replace HL := keepA1 HL
          replace HX := keepA1 HX
          replace HB := keepB1 HB
          go_upto_region 5 with fail
          refine rgStart (S := (fun w' => w'.heap[gX]? = some (.cells (rowA xk u (.slice Ax d.length cx) s) 76 (0, 0)))) (n := 8) #[false, false, false, false, false, false, false, false] (by kernel_rfl) rfl rfl HX.out (fun hHeld => ?_)
          refine rgTake (i := 0) (N := some 38) (oi := { dst := some 38, op := Op.fieldAddr 76 (Operand.tmp 5) 1, type := 0, pos := "ref.go:174", after := #[], guard := none }) (v := ?_) #[true, false, false, false, false, false, false, false] rfl rfl (by kernel_rfl) (fun _ _ _ h => h) (Or.inl ⟨by rfl, ?_⟩) hHeld ?_
          rotate_left
          · intro w' hSw; (try dsimp only at hSw); (have x1 : w'.cell? ⟨gX, 1, none⟩ = some (.int .u32 u) := cellA (Lib.hid hSw) 1; have x2 : w'.cell? ⟨gX, 2, none⟩ = some (.slice Ax d.length cx) := cellA (Lib.hid hSw) 2; have x3 : w'.cell? ⟨gX, 3, none⟩ = some (.int .u8 s) := cellA (Lib.hid hSw) 3; clear hSw); go_simp; try with_reducible rfl
          simp only [Act.put, List.setIfInBounds_toArray, List.set_cons_zero, List.set_cons_succ]
          refine rgTake (i := 1) (N := some 39) (oi := { dst := some 39, op := Op.load 22 (Operand.tmp 38), type := 22, pos := "ref.go:174", after := #[{ on := 0, ground := Ground.data }], guard := none }) (v := ?_) #[true, true, false, false, false, false, false, false] rfl rfl (by kernel_rfl) (fun _ _ _ h => h) (Or.inl ⟨by rfl, ?_⟩) hHeld ?_
          rotate_left
          · intro w' hSw; (try dsimp only at hSw); (have x1 : w'.cell? ⟨gX, 1, none⟩ = some (.int .u32 u) := cellA (Lib.hid hSw) 1; have x2 : w'.cell? ⟨gX, 2, none⟩ = some (.slice Ax d.length cx) := cellA (Lib.hid hSw) 2; have x3 : w'.cell? ⟨gX, 3, none⟩ = some (.int .u8 s) := cellA (Lib.hid hSw) 3; clear hSw); go_simp; try with_reducible rfl
          simp only [Act.put, List.setIfInBounds_toArray, List.set_cons_zero, List.set_cons_succ]
          refine rgTake (i := 2) (N := some 40) (oi := { dst := some 40, op := Op.fieldAddr 76 (Operand.tmp 5) 2, type := 0, pos := "ref.go:174", after := #[], guard := none }) (v := ?_) #[true, true, true, false, false, false, false, false] rfl rfl (by kernel_rfl) (fun _ _ _ h => h) (Or.inl ⟨by rfl, ?_⟩) hHeld ?_
          rotate_left
          · intro w' hSw; (try dsimp only at hSw); (have x1 : w'.cell? ⟨gX, 1, none⟩ = some (.int .u32 u) := cellA (Lib.hid hSw) 1; have x2 : w'.cell? ⟨gX, 2, none⟩ = some (.slice Ax d.length cx) := cellA (Lib.hid hSw) 2; have x3 : w'.cell? ⟨gX, 3, none⟩ = some (.int .u8 s) := cellA (Lib.hid hSw) 3; clear hSw); go_simp; try with_reducible rfl
          simp only [Act.put, List.setIfInBounds_toArray, List.set_cons_zero, List.set_cons_succ]
          refine rgTake (i := 3) (N := some 41) (oi := { dst := some 41, op := Op.load 26 (Operand.tmp 40), type := 26, pos := "ref.go:174", after := #[{ on := 2, ground := Ground.data }], guard := none }) (v := ?_) #[true, true, true, true, false, false, false, false] rfl rfl (by kernel_rfl) (fun _ _ _ h => h) (Or.inl ⟨by rfl, ?_⟩) hHeld ?_
          rotate_left
          · intro w' hSw; (try dsimp only at hSw); (have x1 : w'.cell? ⟨gX, 1, none⟩ = some (.int .u32 u) := cellA (Lib.hid hSw) 1; have x2 : w'.cell? ⟨gX, 2, none⟩ = some (.slice Ax d.length cx) := cellA (Lib.hid hSw) 2; have x3 : w'.cell? ⟨gX, 3, none⟩ = some (.int .u8 s) := cellA (Lib.hid hSw) 3; clear hSw); go_simp; try with_reducible rfl
          simp only [Act.put, List.setIfInBounds_toArray, List.set_cons_zero, List.set_cons_succ]
          refine rgTake (i := 5) (N := some 43) (oi := { dst := some 43, op := Op.fieldAddr 76 (Operand.tmp 5) 3, type := 0, pos := "ref.go:174", after := #[], guard := none }) (v := ?_) #[true, true, true, true, false, true, false, false] rfl rfl (by kernel_rfl) (fun _ _ _ h => h) (Or.inl ⟨by rfl, ?_⟩) hHeld ?_
          rotate_left
          · intro w' hSw; (try dsimp only at hSw); (have x1 : w'.cell? ⟨gX, 1, none⟩ = some (.int .u32 u) := cellA (Lib.hid hSw) 1; have x2 : w'.cell? ⟨gX, 2, none⟩ = some (.slice Ax d.length cx) := cellA (Lib.hid hSw) 2; have x3 : w'.cell? ⟨gX, 3, none⟩ = some (.int .u8 s) := cellA (Lib.hid hSw) 3; clear hSw); go_simp; try with_reducible rfl
          simp only [Act.put, List.setIfInBounds_toArray, List.set_cons_zero, List.set_cons_succ]
          refine rgTake (i := 6) (N := some 44) (oi := { dst := some 44, op := Op.load 5 (Operand.tmp 43), type := 5, pos := "ref.go:174", after := #[{ on := 5, ground := Ground.data }], guard := none }) (v := ?_) #[true, true, true, true, false, true, true, false] rfl rfl (by kernel_rfl) (fun _ _ _ h => h) (Or.inl ⟨by rfl, ?_⟩) hHeld ?_
          rotate_left
          · intro w' hSw; (try dsimp only at hSw); (have x1 : w'.cell? ⟨gX, 1, none⟩ = some (.int .u32 u) := cellA (Lib.hid hSw) 1; have x2 : w'.cell? ⟨gX, 2, none⟩ = some (.slice Ax d.length cx) := cellA (Lib.hid hSw) 2; have x3 : w'.cell? ⟨gX, 3, none⟩ = some (.int .u8 s) := cellA (Lib.hid hSw) 3; clear hSw); go_simp; try with_reducible rfl
          simp only [Act.put, List.setIfInBounds_toArray, List.set_cons_zero, List.set_cons_succ]
          refine rgCall (i := 4) (N := some 42) (oi := { dst := some 42, op := Op.call { callee := Callee.value (Operand.func 30), args := #[Operand.tmp 39, Operand.tmp 41], argTypes := #[22, 26] }, type := 5, pos := "ref.go:174", after := #[{ on := 1, ground := Ground.data }, { on := 3, ground := Ground.data }], guard := none }) #[true, true, true, true, true, true, true, false] rfl rfl (by kernel_rfl) (fun K hK => ?_)
          go_simp
          (go_at_call 30; refine (rcks_any u cx Ax d _ hu (HRX.out.below HB.out.1) HH0.out hd).mono ?_; rw [HCK.out]; rintro e w6 ⟨rfl, hb⟩; replace HB := keepB HB hb; replace HI := keepA HI hb; replace HL := keepA HL hb; replace HX := keepA HX hb; clear hb)
          refine hK.out _ _ HX.out (fun hHeld => ?_)
          (try simp only [Act.put, List.setIfInBounds_toArray, List.set_cons_zero, List.set_cons_succ])
          clear hK K
          refine rgTake (i := 7) (N := some 45) (oi := { dst := some 45, op := Op.binOp BinOp.neq 5 (Operand.tmp 42) (Operand.tmp 44) 5, type := 4, pos := "ref.go:174", after := #[{ on := 4, ground := Ground.data }, { on := 6, ground := Ground.data }], guard := none }) (v := ?_) #[true, true, true, true, true, true, true, true] rfl rfl (by kernel_rfl) (fun _ _ _ h => h) (Or.inl ⟨by rfl, ?_⟩) hHeld ?_
          rotate_left
          · intro w' hSw; (try dsimp only at hSw); (have x1 : w'.cell? ⟨gX, 1, none⟩ = some (.int .u32 u) := cellA (Lib.hid hSw) 1; have x2 : w'.cell? ⟨gX, 2, none⟩ = some (.slice Ax d.length cx) := cellA (Lib.hid hSw) 2; have x3 : w'.cell? ⟨gX, 3, none⟩ = some (.int .u8 s) := cellA (Lib.hid hSw) 3; clear hSw); go_simp; try with_reducible rfl
          simp only [Act.put, List.setIfInBounds_toArray, List.set_cons_zero, List.set_cons_succ]
          refine rgDone (by kernel_rfl) ?_ _
          by_cases jc : ck = s
          · have q5 : ((ck : Int) != (s : Int)) = false := by rw [jc]; exact bne_self_eq_false _
            have HJ := Lib.hid jc
            clear jc
            go_wp2
            go_meet
            exact ⟨HI, HL, HX, HB, Lib.hid (fun q => q (HCK.out.trans HJ.out))⟩
          · have e : M = 11 := by rw [← HM.out]; unfold moreV; exact (if_neg m1).trans ((if_neg M2.out).trans (if_pos (show ckV u d ≠ s from fun q => jc (HCK.out.symm.trans q))))
            subst e
            have q5 : ((ck : Int) != (s : Int)) = true := bne_iff_ne.2 (by omega)
            go_wp2; go_ret; exact ⟨rfl, HB.out.1⟩
        case rest =>
          clear x0 x1 x2 x3 l0 l1 l2 i1 HI HL HX HB
          obtain ⟨HI, HL, HX, HB, M3⟩ := hcut
          clear wr
          obtain ⟨wr, rfl⟩ : ∃ z, z = wc := ⟨wc, rfl⟩
          have x0 : wr.cell? ⟨gX, 0, none⟩ = some (.int .i64 xk) := cellA HX 0; have x1 : wr.cell? ⟨gX, 1, none⟩ = some (.int .u32 u) := cellA HX 1; have x2 : wr.cell? ⟨gX, 2, none⟩ = some (.slice Ax d.length cx) := cellA HX 2; have x3 : wr.cell? ⟨gX, 3, none⟩ = some (.int .u8 s) := cellA HX 3; have l0 : wr.cell? ⟨gL, 0, none⟩ = some (.int .i64 lk) := cellA HL 0; have l1 : wr.cell? ⟨gL, 1, none⟩ = some (.int .u32 ul) := cellA HL 1; have l2 : wr.cell? ⟨gL, 2, none⟩ = some (.slice Al dl.length cl) := cellA HL 2; have i1 : wr.cell? ⟨gI, 1, none⟩ = some (.slice S ms.length c) := cellA HI 1
          refine hK2 _ _ (wp_seq_k fun K1 hK1 => ?_)
          clear hK2 K2
          go_cut [] from 46 to 48 (fun wx => wr = wx ∧ xk ≠ 3)
          case first =>
            by_cases j3 : xk = 3
            · have e : M = 0 := by rw [← HM.out]; unfold moreV; exact (if_neg m1).trans ((if_neg M2.out).trans ((if_neg M3.out).trans (if_pos j3)))
              subst e
              have q6 : ((xk : Int) == 3) = true := beq_iff_eq.2 (by omega)
              clear j3
              go_wp2; go_ret; exact ⟨rfl, HB.out.1⟩
            · have q6 : ((xk : Int) == 3) = false := beq_eq_false_iff_ne.2 (by omega)
              go_wp2
              go_meet
              exact ⟨rfl, j3⟩
          case rest =>
            obtain ⟨rfl, j3⟩ := hcut
            refine hK1 _ _ (wp_seq_k fun K2 hK2 => ?_)
            clear hK1 K1
            go_cut [] from 49 to 57 (fun wx => wr = wx ∧ ¬ (xk = 1 ∧ ms.length = 64))
            case first =>
              by_cases j1 : xk = 1
              · have q7 : ((xk : Int) == 1) = true := beq_iff_eq.2 (by omega)
                by_cases j64 : ms.length = 64
                · have e : M = 4 := by rw [← HM.out]; unfold moreV; exact (if_neg m1).trans ((if_neg M2.out).trans ((if_neg M3.out).trans ((if_neg j3).trans (if_pos ⟨j1, by rw [List.length_map]; exact j64⟩))))
                  subst e
                  have q8 : ((ms.length : Int) == 64) = true := beq_iff_eq.2 (by omega)
                  clear j64 j1
                  go_wp2; go_ret; exact ⟨rfl, HB.out.1⟩
                · have q8 : ((ms.length : Int) == 64) = false := beq_eq_false_iff_ne.2 (by omega)
                  clear j1
                  go_wp2
                  go_meet
                  exact ⟨rfl, fun q => j64 q.2⟩
              · have q7 : ((xk : Int) == 1) = false := beq_eq_false_iff_ne.2 (by omega)
                go_wp2
                go_meet
                exact ⟨rfl, fun q => j1 q.1⟩
            case rest =>
              obtain ⟨rfl, m4⟩ := hcut
              have M4 : Hid (¬ (xk = 1 ∧ (ms.map SegM.v).length = 64)) := Lib.hid (by rw [List.length_map]; exact m4)
              clear m4
              refine hK2 _ _ (wp_seq_k fun K1 hK1 => ?_)
              clear hK2 K2
              go_cut [] from 58 to 65 (fun wx => wr = wx ∧ ¬ 16384 < u + d.length)
              case first =>
                by_cases jr : 16384 < u + d.length
                · have e : M = 3 := by rw [← HM.out]; unfold moreV; exact (if_neg m1).trans ((if_neg M2.out).trans ((if_neg M3.out).trans ((if_neg j3).trans ((if_neg M4.out).trans (if_pos jr)))))
                  subst e
                  have q9 : decide (16384 < (u : Int) + (d.length : Int)) = true := decide_eq_true (by omega)
                  have q9' : decide (16384 < u + d.length) = true := decide_eq_true jr
                  go_wp2; go_ret; exact ⟨rfl, HB.out.1⟩
                · have q9 : decide (16384 < (u : Int) + (d.length : Int)) = false := decide_eq_false (by omega)
                  have q9' : decide (16384 < u + d.length) = false := decide_eq_false jr
                  go_wp2
                  go_meet
                  exact ⟨rfl, jr⟩
              case rest =>
                obtain ⟨rfl, jr⟩ := hcut
                refine hK1 _ _ ?_
                clear hK1 K1
                by_cases j1 : xk = 1
                rotate_left
                · have e : M = 0 := by rw [← HM.out]; unfold moreV; exact (if_neg m1).trans ((if_neg M2.out).trans ((if_neg M3.out).trans ((if_neg j3).trans ((if_neg M4.out).trans ((if_neg jr).trans (if_neg (fun q => j1 q.1)))))))
                  subst e
                  have q7 : ((xk : Int) == 1) = false := beq_eq_false_iff_ne.2 (by omega)
                  go_wp2; go_ret; exact ⟨rfl, HB.out.1⟩
                have q7 : ((xk : Int) == 1) = true := beq_iff_eq.2 (by omega)
                by_cases jn : ms.length = 0
                · have e : M = 0 := by
                    rw [← HM.out]; unfold moreV
                    refine (if_neg m1).trans ((if_neg M2.out).trans ((if_neg M3.out).trans ((if_neg j3).trans ((if_neg M4.out).trans ((if_neg jr).trans (if_neg (fun q => ?_)))))))
                    have q2 : u < endV (ms.map SegM.v) := q.2
                    rw [List.eq_nil_of_length_eq_zero jn] at q2
                    exact absurd q2 (Nat.not_lt_zero _)
                  subst e
                  have q8 : decide (0 < (ms.length : Int)) = false := decide_eq_false (by omega)
                  have q8' : decide (0 < ms.length) = false := decide_eq_false (by omega)
                  clear j1
                  go_wp2; go_ret; exact ⟨rfl, HB.out.1⟩
                have hn0 : 0 < ms.length := by omega
                have q8 : decide (0 < (ms.length : Int)) = true := decide_eq_true (by omega)
                obtain ⟨k, hk⟩ : ∃ k, ms.length = k + 1 := ⟨ms.length - 1, by omega⟩
                obtain ⟨m, hm2⟩ : ∃ m, ms[k]? = some m := ⟨_, List.getElem?_eq_getElem (by omega)⟩
                have hen := end_at hm2 hk
                have hlt : k < ms.length := by omega
                have e7 : (ms.length : Int) - 1 = (k : Int) := by omega
                obtain ⟨b, off, rfl, _, hcc⟩ := (HSG.out.below HB.out.1).1.2.2 hn0
                have HRA := Lib.hid ((HSG.out.below HB.out.1).1.at_ hn0 (sA_get hm2))
                obtain ⟨g1, g2, _, _⟩ := HSG.out.get hm2
                have HK := Lib.hid hk
                have J1 := Lib.hid j1
                clear hcc hk j1 hm2 jn
                obtain ⟨ua, D, cD, dd⟩ := m
                simp only at g1 g2 hen
                by_cases je : u < ua + dd.length
                · have e : M = 7 := by rw [← HM.out]; unfold moreV; exact (if_neg m1).trans ((if_neg M2.out).trans ((if_neg M3.out).trans ((if_neg j3).trans ((if_neg M4.out).trans ((if_neg jr).trans (if_pos ⟨J1.out, by rw [hen]; exact je⟩))))))
                  subst e
                  have q9 : decide ((u : Int) < (ua : Int) + (dd.length : Int)) = true := decide_eq_true (by omega)
                  have q9' : decide (u < ua + dd.length) = true := decide_eq_true je
                  clear hen
                  go_upto_region 14 with fail
                  go_upto_region 15 with (first | (refine wlIdx (by rfl) 23 _ _ rfl 51 2 Tryd.underlying23 sizeSeg b off ms.length c k rfl (by first | rfl | exact congrArg (Value.int .i64) e7) hlt ?_) | (refine partLoad (by rfl) 51 _ rfl b (off + k * 2) rfl (cs := sA ⟨ua, D, cD, dd⟩) HRA.out Tryd.underlying51 rfl infoSeg ?_) | (refine wlAlloc (by rfl) 51 rfl #[.int .u32 0, .slice none 0 0] zeroSg ?_; intro gS w5 hg hl ha hb; have HGS : Hid (w.heap.size ≤ gS) := Lib.hid (Nat.le_trans HB.out.2 hg); have HXS : Hid (gX ≠ gS) := Lib.hid (Nat.ne_of_lt (Nat.lt_of_lt_of_le (Array.getElem?_eq_some_iff.1 HX.out).1 hg)); replace HB := keepB HB hb; replace HX := keepA HX hb; have HZ := Lib.hid ha; clear ha hb hg hl) | (refine rowStore (by rfl) 51 _ _ rfl gS rfl (sA ⟨ua, D, cD, dd⟩) rfl HZ.out infoSeg rfl (sA_one ⟨ua, D, cD, dd⟩) ?_; intro w7 ha ho; replace HX := keepAo HX HXS.out ho; replace HZ := Lib.hid ha; replace HB := keepBo HB HGS.out ho; have x1 : w7.cell? ⟨gX, 1, none⟩ = some (.int .u32 u) := cellA HX 1; have z0 : w7.cell? ⟨gS, 0, none⟩ = some (.int .u32 ua) := cellA HZ 0; have z1 : w7.cell? ⟨gS, 1, none⟩ = some (.slice D dd.length cD) := cellA HZ 1; clear ha ho))
                  go_wp2; go_ret; exact ⟨rfl, HB.out.1⟩
                · have e : M = 0 := by rw [← HM.out]; unfold moreV; exact (if_neg m1).trans ((if_neg M2.out).trans ((if_neg M3.out).trans ((if_neg j3).trans ((if_neg M4.out).trans ((if_neg jr).trans (if_neg (fun q => je (by have q2 : u < endV (ms.map SegM.v) := q.2; rw [hen] at q2; exact q2))))))))
                  subst e
                  have q9 : decide ((u : Int) < (ua : Int) + (dd.length : Int)) = false := decide_eq_false (by omega)
                  have q9' : decide (u < ua + dd.length) = false := decide_eq_false je
                  clear hen
                  go_upto_region 14 with fail
                  go_upto_region 15 with (first | (refine wlIdx (by rfl) 23 _ _ rfl 51 2 Tryd.underlying23 sizeSeg b off ms.length c k rfl (by first | rfl | exact congrArg (Value.int .i64) e7) hlt ?_) | (refine partLoad (by rfl) 51 _ rfl b (off + k * 2) rfl (cs := sA ⟨ua, D, cD, dd⟩) HRA.out Tryd.underlying51 rfl infoSeg ?_) | (refine wlAlloc (by rfl) 51 rfl #[.int .u32 0, .slice none 0 0] zeroSg ?_; intro gS w5 hg hl ha hb; have HGS : Hid (w.heap.size ≤ gS) := Lib.hid (Nat.le_trans HB.out.2 hg); have HXS : Hid (gX ≠ gS) := Lib.hid (Nat.ne_of_lt (Nat.lt_of_lt_of_le (Array.getElem?_eq_some_iff.1 HX.out).1 hg)); replace HB := keepB HB hb; replace HX := keepA HX hb; have HZ := Lib.hid ha; clear ha hb hg hl) | (refine rowStore (by rfl) 51 _ _ rfl gS rfl (sA ⟨ua, D, cD, dd⟩) rfl HZ.out infoSeg rfl (sA_one ⟨ua, D, cD, dd⟩) ?_; intro w7 ha ho; replace HX := keepAo HX HXS.out ho; replace HZ := Lib.hid ha; replace HB := keepBo HB HGS.out ho; have x1 : w7.cell? ⟨gX, 1, none⟩ = some (.int .u32 u) := cellA HX 1; have z0 : w7.cell? ⟨gS, 0, none⟩ = some (.int .u32 ua) := cellA HZ 0; have z1 : w7.cell? ⟨gS, 1, none⟩ = some (.slice D dd.length cD) := cellA HZ 1; clear ha ho))
                  go_wp2; go_ret; exact ⟨rfl, HB.out.1⟩
end Go.Proofs.YtnigkecpiolgeaaDoor.My
