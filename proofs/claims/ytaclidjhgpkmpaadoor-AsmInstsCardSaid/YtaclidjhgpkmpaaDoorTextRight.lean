/- Walk: may an instruction be: the program's. -/
import Derived.Test.YtaclidjhgpkmpaaDoorTextHas
import Derived.Test.YtaclidjhgpkmpaaDoorTextRows
import Derived.Deep.Cut
set_option linter.unusedVariables false
set_option linter.unusedSimpArgs false
namespace Go.Proofs.YtaclidjhgpkmpaaDoor.My
open Go.RowKit
/-- An instruction as a value. -/
def insA (op rd ra rb im : Int) : Array Value := #[.int .i64 op, .int .i64 rd, .int .i64 ra, .int .i64 rb, .int .i64 im]
theorem infoIn : (Tryd.prog.info? 30).map (·.size) = some 5 := by kernel_rfl
theorem insA_one (op rd ra rb im : Int) : (insA op rd ra rb im).all (·.oneCell') = true := by simp [insA, Value.oneCell']
def badR (F b n : Int) : Bool := decide (n < 0) || decide (15 < n) || (!hasV F b && n != 0)
/-- May an instruction be: a code. -/
def rightI (op rd ra rb im : Int) : Nat :=
  if formV op = 0 then 9 else if badR (formV op) 1 rd = true then 1 else if badR (formV op) 2 ra = true then 1 else if badR (formV op) 4 rb = true then 1
  else if hasV (formV op) 8 = false ∧ im ≠ 0 then 1 else if hasV (formV op) 8 = true ∧ withinV op im = false then 3 else 0
def tailI (F op rd ra rb im : Int) : Nat → Nat
  | 0 => if badR F 1 rd = true then 1 else if badR F 2 ra = true then 1 else if badR F 4 rb = true then 1 else if hasV F 8 = false ∧ im ≠ 0 then 1 else if hasV F 8 = true ∧ withinV op im = false then 3 else 0
  | 1 => if badR F 2 ra = true then 1 else if badR F 4 rb = true then 1 else if hasV F 8 = false ∧ im ≠ 0 then 1 else if hasV F 8 = true ∧ withinV op im = false then 3 else 0
  | 2 => if badR F 4 rb = true then 1 else if hasV F 8 = false ∧ im ≠ 0 then 1 else if hasV F 8 = true ∧ withinV op im = false then 3 else 0
  | _ => if hasV F 8 = false ∧ im ≠ 0 then 1 else if hasV F 8 = true ∧ withinV op im = false then 3 else 0
/-- The table of fields, in memory. -/
def FieldsAt (w : World) : Prop := ∀ i : Nat, i < 12 → w.cell? ⟨0, i, none⟩ = some (.int .i64 (bitsL.getD i 0))
theorem FieldsAt.below {w w' : World} (h : FieldsAt w) (hb : Below w.heap.size w w') : FieldsAt w' := fun i hi => (hb.cell (World.block_lt_of_cell? w _ (h i hi))).trans (h i hi)
section
variable {P : Program} {ops : Array Oper} {o : Oper} {a : Act} {w : World} {Q : Exit → Act → World → Prop} {rest : List Oper}
theorem wlIxa (hw : Region.wanted o (yielded ops a.tmps) = true) (t : TypeId) (x y : Operand) (ho : o.op = .index t x y) (out : Array Value) (hrun : ∀ w, (execOp a.eval o).run P w = .ok (.value (.agg out)) w)
    (hk : wpList P ops Q rest (a.put o.dst (.agg out)) w) : wpList P ops Q (o :: rest) a w :=
  wpList_step fun K hK => by
    rw [if_pos hw]
    unfold Oper.wp
    rw [hrun]
    exact hK _ _ hk
end
theorem cell_only2 {w w' : World} {g k : Nat} (hg : g ≠ k) (ho : Only g w w') (i : Nat) : w'.cell? ⟨k, i, none⟩ = w.cell? ⟨k, i, none⟩ := by
  unfold World.cell?
  rw [ho.block k (Ne.symm hg)]
theorem FieldsAt.only {w w' : World} {g : Nat} (h : FieldsAt w) (hg : g ≠ 0) (ho : Only g w w') : FieldsAt w' := fun i hi => by
  rw [← h i hi]
  exact cell_only2 hg ho i
theorem info66 : (Tryd.prog.info? 80).map (·.size) = some 3 := by kernel_rfl
theorem zero66 (w : World) : (zeroValue 80).run Tryd.prog w = .ok (.agg #[.int .i64 0, .int .i64 0, .int .i64 0]) w := by kernel_rfl
set_option maxRecDepth 100000 in
set_option maxHeartbeats 4000000 in
theorem right_any (op rd ra rb im : Int) (w : World) (ht : FieldsAt w) : Calls Tryd.prog 15 #[.agg (insA op rd ra rb im)] w fun e w' => e = .returned (.int .i64 (rightI op rd ra rb im : Nat)) ∧ Below w.heap.size w w' := by
  have HB := startB w
  have HFT := Lib.hid ht
  clear ht
  obtain ⟨R, hR⟩ : ∃ R, rightI op rd ra rb im = R := ⟨_, rfl⟩
  rw [hR]
  unfold rightI at hR
  obtain ⟨F, hF⟩ : ∃ F, formV op = F := ⟨_, rfl⟩
  rw [hF] at hR
  have HF := Lib.hid hF
  clear hF
  by_cases q0 : F = 0
  · rw [if_pos q0] at hR
    subst hR
    have q1 : (F == 0) = true := beq_iff_eq.2 q0
    clear q0
    go_enter Tryd.func15, Tryd.ntmps15
    go_wp2_with (first | (refine wlBox (by rfl) 30 _ rfl (insA op rd ra rb im) rfl ?_; intro gI w1 hg hl ha hb; replace HFT := Lib.hid (HFT.out.below hb); replace HB := keepB HB hb; have HI := Lib.hid ha; have i0 : w1.cell? ⟨gI, 0, none⟩ = some (.int .i64 op) := cellA HI 0; have i1 : w1.cell? ⟨gI, 1, none⟩ = some (.int .i64 rd) := cellA HI 1; have i2 : w1.cell? ⟨gI, 2, none⟩ = some (.int .i64 ra) := cellA HI 2; have i3 : w1.cell? ⟨gI, 3, none⟩ = some (.int .i64 rb) := cellA HI 3; have i4 : w1.cell? ⟨gI, 4, none⟩ = some (.int .i64 im) := cellA HI 4; clear ha hb hg hl) | (go_at_call 20; refine (form_any op _).mono ?_; rw [HF.out]; rintro e w2 ⟨rfl, rfl⟩))
    go_ret
    exact ⟨rfl, HB.out.1⟩
  rw [if_neg q0] at hR
  have q1 : (F == 0) = false := beq_eq_false_iff_ne.2 q0
  have HR := Lib.hid hR
  clear hR q0
  go_enter Tryd.func15, Tryd.ntmps15
  go_wp2_with (first | (refine wlBox (by rfl) 30 _ rfl (insA op rd ra rb im) rfl ?_; intro gI w1 hg hl ha hb; replace HFT := Lib.hid (HFT.out.below hb); replace HB := keepB HB hb; have HI := Lib.hid ha; have i0 : w1.cell? ⟨gI, 0, none⟩ = some (.int .i64 op) := cellA HI 0; have i1 : w1.cell? ⟨gI, 1, none⟩ = some (.int .i64 rd) := cellA HI 1; have i2 : w1.cell? ⟨gI, 2, none⟩ = some (.int .i64 ra) := cellA HI 2; have i3 : w1.cell? ⟨gI, 3, none⟩ = some (.int .i64 rb) := cellA HI 3; have i4 : w1.cell? ⟨gI, 4, none⟩ = some (.int .i64 im) := cellA HI 4; clear ha hb hg hl) | (go_at_call 20; refine (form_any op _).mono ?_; rw [HF.out]; rintro e w2 ⟨rfl, rfl⟩))
  replace HR : Hid (tailI F op rd ra rb im 0 = R) := HR
  clear i0 i1 i2 i3 i4
  go_loopw [19] (fun i wr => ∃ k : Nat, k ≤ 3 ∧ i = .int .i64 k ∧ Hid (tailI F op rd ra rb im k = R) ∧ Hid (FieldsAt wr) ∧ Hid (wr.heap[gI]? = some (.cells (insA op rd ra rb im) 30 (0, 0))) ∧ Hid (Below w.heap.size w wr ∧ w.heap.size ≤ wr.heap.size)) (fun i _ => 3 - (intOf i).toNat)
  case atStart => exact ⟨0, by omega, by first | trivial | rfl, HR, HFT, HI, HB⟩
  case round =>
    clear HR HFT HI HB
    obtain ⟨k, hk, rfl, HR, HFT, HI, HB⟩ := hrel
    have i0 : wr.cell? ⟨gI, 0, none⟩ = some (.int .i64 op) := cellA HI 0
    have i4 : wr.cell? ⟨gI, 4, none⟩ = some (.int .i64 im) := cellA HI 4
    rcases (show k = 0 ∨ k = 1 ∨ k = 2 ∨ k = 3 by omega) with hkk | hkk | hkk | hkk
    · obtain rfl : k = 0 := hkk
      have hr : (if badR F 1 rd = true then 1 else tailI F op rd ra rb im 1) = R := HR.out
      clear HR
      obtain ⟨H, hH⟩ : ∃ H, hasV F 1 = H := ⟨_, rfl⟩
      have HH := Lib.hid hH
      unfold badR at hr
      rw [hH] at hr
      clear hH
      by_cases q2 : rd < 0
      · rw [decide_eq_true q2, Bool.true_or, Bool.true_or, if_pos rfl] at hr
        have g2 : decide (rd < 0) = true := decide_eq_true q2
        clear q2
        subst hr
        go_upto_region 6 with (first | (refine wlIxa (by rfl) 81 _ _ rfl #[.int .i64 1, .int .i64 rd, .int .i64 15] (fun _ => by kernel_rfl) ?_) | (refine wlAlloc (by rfl) 80 rfl #[.int .i64 0, .int .i64 0, .int .i64 0] zero66 ?_; intro gF w3 hg hl ha hb; have HGF : Hid (w.heap.size ≤ gF) := Lib.hid (Nat.le_trans HB.out.2 hg); have HIF : Hid (gI ≠ gF) := Lib.hid (Nat.ne_of_lt (Nat.lt_of_lt_of_le (Array.getElem?_eq_some_iff.1 HI.out).1 hg)); have HTW : Hid (gF ≠ 0) := Lib.hid (Nat.ne_of_gt (Nat.lt_of_lt_of_le (World.block_lt_of_cell? _ _ (HFT.out 0 (by decide))) hg)); replace HFT := Lib.hid (HFT.out.below hb); replace HI := keepA HI hb; replace HB := keepB HB hb; have HZ := Lib.hid ha; clear ha hb hg hl) | (refine rowStore (by rfl) 80 _ _ rfl gF rfl #[.int .i64 1, .int .i64 rd, .int .i64 15] rfl HZ.out info66 rfl (by simp [Value.oneCell']) ?_; intro w4 ha ho; replace HFT := Lib.hid (HFT.out.only HTW.out ho); replace HI := keepAo HI HIF.out ho; replace HZ := Lib.hid ha; replace HB := keepBo HB HGF.out ho; have i0 : w4.cell? ⟨gI, 0, none⟩ = some (.int .i64 op) := cellA HI 0; have i4 : w4.cell? ⟨gI, 4, none⟩ = some (.int .i64 im) := cellA HI 4; have x0 : w4.cell? ⟨gF, 0, none⟩ = some (.int .i64 1) := cellA HZ 0; have x1 : w4.cell? ⟨gF, 1, none⟩ = some (.int .i64 rd) := cellA HZ 1; have x2 : w4.cell? ⟨gF, 2, none⟩ = some (.int .i64 15) := cellA HZ 2; clear ha ho))
        go_wp2_with (go_at_call 17; refine (has_any op 1 _ HFT.out).mono ?_; rw [HF.out, HH.out]; rintro e w5 ⟨rfl, rfl⟩)
        go_ret
        exact ⟨rfl, HB.out.1⟩
      rw [decide_eq_false q2, Bool.false_or] at hr
      have g2 : decide (rd < 0) = false := decide_eq_false q2
      by_cases q3 : 15 < rd
      · rw [decide_eq_true q3, Bool.true_or, if_pos rfl] at hr
        have g3 : decide (15 < rd) = true := decide_eq_true q3
        clear q3
        subst hr
        go_upto_region 6 with (first | (refine wlIxa (by rfl) 81 _ _ rfl #[.int .i64 1, .int .i64 rd, .int .i64 15] (fun _ => by kernel_rfl) ?_) | (refine wlAlloc (by rfl) 80 rfl #[.int .i64 0, .int .i64 0, .int .i64 0] zero66 ?_; intro gF w3 hg hl ha hb; have HGF : Hid (w.heap.size ≤ gF) := Lib.hid (Nat.le_trans HB.out.2 hg); have HIF : Hid (gI ≠ gF) := Lib.hid (Nat.ne_of_lt (Nat.lt_of_lt_of_le (Array.getElem?_eq_some_iff.1 HI.out).1 hg)); have HTW : Hid (gF ≠ 0) := Lib.hid (Nat.ne_of_gt (Nat.lt_of_lt_of_le (World.block_lt_of_cell? _ _ (HFT.out 0 (by decide))) hg)); replace HFT := Lib.hid (HFT.out.below hb); replace HI := keepA HI hb; replace HB := keepB HB hb; have HZ := Lib.hid ha; clear ha hb hg hl) | (refine rowStore (by rfl) 80 _ _ rfl gF rfl #[.int .i64 1, .int .i64 rd, .int .i64 15] rfl HZ.out info66 rfl (by simp [Value.oneCell']) ?_; intro w4 ha ho; replace HFT := Lib.hid (HFT.out.only HTW.out ho); replace HI := keepAo HI HIF.out ho; replace HZ := Lib.hid ha; replace HB := keepBo HB HGF.out ho; have i0 : w4.cell? ⟨gI, 0, none⟩ = some (.int .i64 op) := cellA HI 0; have i4 : w4.cell? ⟨gI, 4, none⟩ = some (.int .i64 im) := cellA HI 4; have x0 : w4.cell? ⟨gF, 0, none⟩ = some (.int .i64 1) := cellA HZ 0; have x1 : w4.cell? ⟨gF, 1, none⟩ = some (.int .i64 rd) := cellA HZ 1; have x2 : w4.cell? ⟨gF, 2, none⟩ = some (.int .i64 15) := cellA HZ 2; clear ha ho))
        go_wp2_with (go_at_call 17; refine (has_any op 1 _ HFT.out).mono ?_; rw [HF.out, HH.out]; rintro e w5 ⟨rfl, rfl⟩)
        go_ret
        exact ⟨rfl, HB.out.1⟩
      rw [decide_eq_false q3, Bool.false_or] at hr
      have g3 : decide (15 < rd) = false := decide_eq_false q3
      clear q2 q3
      cases H with
      | true =>
        rw [Bool.not_true, Bool.false_and, if_neg Bool.false_ne_true] at hr
        have HR := Lib.hid hr
        clear hr
        go_upto_region 6 with (first | (refine wlIxa (by rfl) 81 _ _ rfl #[.int .i64 1, .int .i64 rd, .int .i64 15] (fun _ => by kernel_rfl) ?_) | (refine wlAlloc (by rfl) 80 rfl #[.int .i64 0, .int .i64 0, .int .i64 0] zero66 ?_; intro gF w3 hg hl ha hb; have HGF : Hid (w.heap.size ≤ gF) := Lib.hid (Nat.le_trans HB.out.2 hg); have HIF : Hid (gI ≠ gF) := Lib.hid (Nat.ne_of_lt (Nat.lt_of_lt_of_le (Array.getElem?_eq_some_iff.1 HI.out).1 hg)); have HTW : Hid (gF ≠ 0) := Lib.hid (Nat.ne_of_gt (Nat.lt_of_lt_of_le (World.block_lt_of_cell? _ _ (HFT.out 0 (by decide))) hg)); replace HFT := Lib.hid (HFT.out.below hb); replace HI := keepA HI hb; replace HB := keepB HB hb; have HZ := Lib.hid ha; clear ha hb hg hl) | (refine rowStore (by rfl) 80 _ _ rfl gF rfl #[.int .i64 1, .int .i64 rd, .int .i64 15] rfl HZ.out info66 rfl (by simp [Value.oneCell']) ?_; intro w4 ha ho; replace HFT := Lib.hid (HFT.out.only HTW.out ho); replace HI := keepAo HI HIF.out ho; replace HZ := Lib.hid ha; replace HB := keepBo HB HGF.out ho; have i0 : w4.cell? ⟨gI, 0, none⟩ = some (.int .i64 op) := cellA HI 0; have i4 : w4.cell? ⟨gI, 4, none⟩ = some (.int .i64 im) := cellA HI 4; have x0 : w4.cell? ⟨gF, 0, none⟩ = some (.int .i64 1) := cellA HZ 0; have x1 : w4.cell? ⟨gF, 1, none⟩ = some (.int .i64 rd) := cellA HZ 1; have x2 : w4.cell? ⟨gF, 2, none⟩ = some (.int .i64 15) := cellA HZ 2; clear ha ho))
        go_wp2_with (go_at_call 17; refine (has_any op 1 _ HFT.out).mono ?_; rw [HF.out, HH.out]; rintro e w5 ⟨rfl, rfl⟩)
        go_roundw
        case rel => exact ⟨1, by omega, by first | trivial | go_num | rfl, HR, HFT, HI, HB⟩
        case measure => simp [intOf]
      | false =>
        rw [Bool.not_false, Bool.true_and] at hr
        by_cases q4 : rd = 0
        · have g4 : (rd != 0) = false := by rw [q4]; rfl
          rw [g4, if_neg Bool.false_ne_true] at hr
          clear q4
          have HR := Lib.hid hr
          clear hr
          go_upto_region 6 with (first | (refine wlIxa (by rfl) 81 _ _ rfl #[.int .i64 1, .int .i64 rd, .int .i64 15] (fun _ => by kernel_rfl) ?_) | (refine wlAlloc (by rfl) 80 rfl #[.int .i64 0, .int .i64 0, .int .i64 0] zero66 ?_; intro gF w3 hg hl ha hb; have HGF : Hid (w.heap.size ≤ gF) := Lib.hid (Nat.le_trans HB.out.2 hg); have HIF : Hid (gI ≠ gF) := Lib.hid (Nat.ne_of_lt (Nat.lt_of_lt_of_le (Array.getElem?_eq_some_iff.1 HI.out).1 hg)); have HTW : Hid (gF ≠ 0) := Lib.hid (Nat.ne_of_gt (Nat.lt_of_lt_of_le (World.block_lt_of_cell? _ _ (HFT.out 0 (by decide))) hg)); replace HFT := Lib.hid (HFT.out.below hb); replace HI := keepA HI hb; replace HB := keepB HB hb; have HZ := Lib.hid ha; clear ha hb hg hl) | (refine rowStore (by rfl) 80 _ _ rfl gF rfl #[.int .i64 1, .int .i64 rd, .int .i64 15] rfl HZ.out info66 rfl (by simp [Value.oneCell']) ?_; intro w4 ha ho; replace HFT := Lib.hid (HFT.out.only HTW.out ho); replace HI := keepAo HI HIF.out ho; replace HZ := Lib.hid ha; replace HB := keepBo HB HGF.out ho; have i0 : w4.cell? ⟨gI, 0, none⟩ = some (.int .i64 op) := cellA HI 0; have i4 : w4.cell? ⟨gI, 4, none⟩ = some (.int .i64 im) := cellA HI 4; have x0 : w4.cell? ⟨gF, 0, none⟩ = some (.int .i64 1) := cellA HZ 0; have x1 : w4.cell? ⟨gF, 1, none⟩ = some (.int .i64 rd) := cellA HZ 1; have x2 : w4.cell? ⟨gF, 2, none⟩ = some (.int .i64 15) := cellA HZ 2; clear ha ho))
          go_wp2_with (go_at_call 17; refine (has_any op 1 _ HFT.out).mono ?_; rw [HF.out, HH.out]; rintro e w5 ⟨rfl, rfl⟩)
          go_roundw
          case rel => exact ⟨1, by omega, by first | trivial | go_num | rfl, HR, HFT, HI, HB⟩
          case measure => simp [intOf]
        · have g4 : (rd != 0) = true := bne_iff_ne.2 q4
          rw [g4, if_pos rfl] at hr
          clear q4
          subst hr
          go_upto_region 6 with (first | (refine wlIxa (by rfl) 81 _ _ rfl #[.int .i64 1, .int .i64 rd, .int .i64 15] (fun _ => by kernel_rfl) ?_) | (refine wlAlloc (by rfl) 80 rfl #[.int .i64 0, .int .i64 0, .int .i64 0] zero66 ?_; intro gF w3 hg hl ha hb; have HGF : Hid (w.heap.size ≤ gF) := Lib.hid (Nat.le_trans HB.out.2 hg); have HIF : Hid (gI ≠ gF) := Lib.hid (Nat.ne_of_lt (Nat.lt_of_lt_of_le (Array.getElem?_eq_some_iff.1 HI.out).1 hg)); have HTW : Hid (gF ≠ 0) := Lib.hid (Nat.ne_of_gt (Nat.lt_of_lt_of_le (World.block_lt_of_cell? _ _ (HFT.out 0 (by decide))) hg)); replace HFT := Lib.hid (HFT.out.below hb); replace HI := keepA HI hb; replace HB := keepB HB hb; have HZ := Lib.hid ha; clear ha hb hg hl) | (refine rowStore (by rfl) 80 _ _ rfl gF rfl #[.int .i64 1, .int .i64 rd, .int .i64 15] rfl HZ.out info66 rfl (by simp [Value.oneCell']) ?_; intro w4 ha ho; replace HFT := Lib.hid (HFT.out.only HTW.out ho); replace HI := keepAo HI HIF.out ho; replace HZ := Lib.hid ha; replace HB := keepBo HB HGF.out ho; have i0 : w4.cell? ⟨gI, 0, none⟩ = some (.int .i64 op) := cellA HI 0; have i4 : w4.cell? ⟨gI, 4, none⟩ = some (.int .i64 im) := cellA HI 4; have x0 : w4.cell? ⟨gF, 0, none⟩ = some (.int .i64 1) := cellA HZ 0; have x1 : w4.cell? ⟨gF, 1, none⟩ = some (.int .i64 rd) := cellA HZ 1; have x2 : w4.cell? ⟨gF, 2, none⟩ = some (.int .i64 15) := cellA HZ 2; clear ha ho))
          go_wp2_with (go_at_call 17; refine (has_any op 1 _ HFT.out).mono ?_; rw [HF.out, HH.out]; rintro e w5 ⟨rfl, rfl⟩)
          go_ret
          exact ⟨rfl, HB.out.1⟩
    · obtain rfl : k = 1 := hkk
      have hr : (if badR F 2 ra = true then 1 else tailI F op rd ra rb im 2) = R := HR.out
      clear HR
      obtain ⟨H, hH⟩ : ∃ H, hasV F 2 = H := ⟨_, rfl⟩
      have HH := Lib.hid hH
      unfold badR at hr
      rw [hH] at hr
      clear hH
      by_cases q2 : ra < 0
      · rw [decide_eq_true q2, Bool.true_or, Bool.true_or, if_pos rfl] at hr
        have g2 : decide (ra < 0) = true := decide_eq_true q2
        clear q2
        subst hr
        go_upto_region 6 with (first | (refine wlIxa (by rfl) 81 _ _ rfl #[.int .i64 2, .int .i64 ra, .int .i64 15] (fun _ => by kernel_rfl) ?_) | (refine wlAlloc (by rfl) 80 rfl #[.int .i64 0, .int .i64 0, .int .i64 0] zero66 ?_; intro gF w3 hg hl ha hb; have HGF : Hid (w.heap.size ≤ gF) := Lib.hid (Nat.le_trans HB.out.2 hg); have HIF : Hid (gI ≠ gF) := Lib.hid (Nat.ne_of_lt (Nat.lt_of_lt_of_le (Array.getElem?_eq_some_iff.1 HI.out).1 hg)); have HTW : Hid (gF ≠ 0) := Lib.hid (Nat.ne_of_gt (Nat.lt_of_lt_of_le (World.block_lt_of_cell? _ _ (HFT.out 0 (by decide))) hg)); replace HFT := Lib.hid (HFT.out.below hb); replace HI := keepA HI hb; replace HB := keepB HB hb; have HZ := Lib.hid ha; clear ha hb hg hl) | (refine rowStore (by rfl) 80 _ _ rfl gF rfl #[.int .i64 2, .int .i64 ra, .int .i64 15] rfl HZ.out info66 rfl (by simp [Value.oneCell']) ?_; intro w4 ha ho; replace HFT := Lib.hid (HFT.out.only HTW.out ho); replace HI := keepAo HI HIF.out ho; replace HZ := Lib.hid ha; replace HB := keepBo HB HGF.out ho; have i0 : w4.cell? ⟨gI, 0, none⟩ = some (.int .i64 op) := cellA HI 0; have i4 : w4.cell? ⟨gI, 4, none⟩ = some (.int .i64 im) := cellA HI 4; have x0 : w4.cell? ⟨gF, 0, none⟩ = some (.int .i64 2) := cellA HZ 0; have x1 : w4.cell? ⟨gF, 1, none⟩ = some (.int .i64 ra) := cellA HZ 1; have x2 : w4.cell? ⟨gF, 2, none⟩ = some (.int .i64 15) := cellA HZ 2; clear ha ho))
        go_wp2_with (go_at_call 17; refine (has_any op 2 _ HFT.out).mono ?_; rw [HF.out, HH.out]; rintro e w5 ⟨rfl, rfl⟩)
        go_ret
        exact ⟨rfl, HB.out.1⟩
      rw [decide_eq_false q2, Bool.false_or] at hr
      have g2 : decide (ra < 0) = false := decide_eq_false q2
      by_cases q3 : 15 < ra
      · rw [decide_eq_true q3, Bool.true_or, if_pos rfl] at hr
        have g3 : decide (15 < ra) = true := decide_eq_true q3
        clear q3
        subst hr
        go_upto_region 6 with (first | (refine wlIxa (by rfl) 81 _ _ rfl #[.int .i64 2, .int .i64 ra, .int .i64 15] (fun _ => by kernel_rfl) ?_) | (refine wlAlloc (by rfl) 80 rfl #[.int .i64 0, .int .i64 0, .int .i64 0] zero66 ?_; intro gF w3 hg hl ha hb; have HGF : Hid (w.heap.size ≤ gF) := Lib.hid (Nat.le_trans HB.out.2 hg); have HIF : Hid (gI ≠ gF) := Lib.hid (Nat.ne_of_lt (Nat.lt_of_lt_of_le (Array.getElem?_eq_some_iff.1 HI.out).1 hg)); have HTW : Hid (gF ≠ 0) := Lib.hid (Nat.ne_of_gt (Nat.lt_of_lt_of_le (World.block_lt_of_cell? _ _ (HFT.out 0 (by decide))) hg)); replace HFT := Lib.hid (HFT.out.below hb); replace HI := keepA HI hb; replace HB := keepB HB hb; have HZ := Lib.hid ha; clear ha hb hg hl) | (refine rowStore (by rfl) 80 _ _ rfl gF rfl #[.int .i64 2, .int .i64 ra, .int .i64 15] rfl HZ.out info66 rfl (by simp [Value.oneCell']) ?_; intro w4 ha ho; replace HFT := Lib.hid (HFT.out.only HTW.out ho); replace HI := keepAo HI HIF.out ho; replace HZ := Lib.hid ha; replace HB := keepBo HB HGF.out ho; have i0 : w4.cell? ⟨gI, 0, none⟩ = some (.int .i64 op) := cellA HI 0; have i4 : w4.cell? ⟨gI, 4, none⟩ = some (.int .i64 im) := cellA HI 4; have x0 : w4.cell? ⟨gF, 0, none⟩ = some (.int .i64 2) := cellA HZ 0; have x1 : w4.cell? ⟨gF, 1, none⟩ = some (.int .i64 ra) := cellA HZ 1; have x2 : w4.cell? ⟨gF, 2, none⟩ = some (.int .i64 15) := cellA HZ 2; clear ha ho))
        go_wp2_with (go_at_call 17; refine (has_any op 2 _ HFT.out).mono ?_; rw [HF.out, HH.out]; rintro e w5 ⟨rfl, rfl⟩)
        go_ret
        exact ⟨rfl, HB.out.1⟩
      rw [decide_eq_false q3, Bool.false_or] at hr
      have g3 : decide (15 < ra) = false := decide_eq_false q3
      clear q2 q3
      cases H with
      | true =>
        rw [Bool.not_true, Bool.false_and, if_neg Bool.false_ne_true] at hr
        have HR := Lib.hid hr
        clear hr
        go_upto_region 6 with (first | (refine wlIxa (by rfl) 81 _ _ rfl #[.int .i64 2, .int .i64 ra, .int .i64 15] (fun _ => by kernel_rfl) ?_) | (refine wlAlloc (by rfl) 80 rfl #[.int .i64 0, .int .i64 0, .int .i64 0] zero66 ?_; intro gF w3 hg hl ha hb; have HGF : Hid (w.heap.size ≤ gF) := Lib.hid (Nat.le_trans HB.out.2 hg); have HIF : Hid (gI ≠ gF) := Lib.hid (Nat.ne_of_lt (Nat.lt_of_lt_of_le (Array.getElem?_eq_some_iff.1 HI.out).1 hg)); have HTW : Hid (gF ≠ 0) := Lib.hid (Nat.ne_of_gt (Nat.lt_of_lt_of_le (World.block_lt_of_cell? _ _ (HFT.out 0 (by decide))) hg)); replace HFT := Lib.hid (HFT.out.below hb); replace HI := keepA HI hb; replace HB := keepB HB hb; have HZ := Lib.hid ha; clear ha hb hg hl) | (refine rowStore (by rfl) 80 _ _ rfl gF rfl #[.int .i64 2, .int .i64 ra, .int .i64 15] rfl HZ.out info66 rfl (by simp [Value.oneCell']) ?_; intro w4 ha ho; replace HFT := Lib.hid (HFT.out.only HTW.out ho); replace HI := keepAo HI HIF.out ho; replace HZ := Lib.hid ha; replace HB := keepBo HB HGF.out ho; have i0 : w4.cell? ⟨gI, 0, none⟩ = some (.int .i64 op) := cellA HI 0; have i4 : w4.cell? ⟨gI, 4, none⟩ = some (.int .i64 im) := cellA HI 4; have x0 : w4.cell? ⟨gF, 0, none⟩ = some (.int .i64 2) := cellA HZ 0; have x1 : w4.cell? ⟨gF, 1, none⟩ = some (.int .i64 ra) := cellA HZ 1; have x2 : w4.cell? ⟨gF, 2, none⟩ = some (.int .i64 15) := cellA HZ 2; clear ha ho))
        go_wp2_with (go_at_call 17; refine (has_any op 2 _ HFT.out).mono ?_; rw [HF.out, HH.out]; rintro e w5 ⟨rfl, rfl⟩)
        go_roundw
        case rel => exact ⟨2, by omega, by first | trivial | go_num | rfl, HR, HFT, HI, HB⟩
        case measure => simp [intOf]
      | false =>
        rw [Bool.not_false, Bool.true_and] at hr
        by_cases q4 : ra = 0
        · have g4 : (ra != 0) = false := by rw [q4]; rfl
          rw [g4, if_neg Bool.false_ne_true] at hr
          clear q4
          have HR := Lib.hid hr
          clear hr
          go_upto_region 6 with (first | (refine wlIxa (by rfl) 81 _ _ rfl #[.int .i64 2, .int .i64 ra, .int .i64 15] (fun _ => by kernel_rfl) ?_) | (refine wlAlloc (by rfl) 80 rfl #[.int .i64 0, .int .i64 0, .int .i64 0] zero66 ?_; intro gF w3 hg hl ha hb; have HGF : Hid (w.heap.size ≤ gF) := Lib.hid (Nat.le_trans HB.out.2 hg); have HIF : Hid (gI ≠ gF) := Lib.hid (Nat.ne_of_lt (Nat.lt_of_lt_of_le (Array.getElem?_eq_some_iff.1 HI.out).1 hg)); have HTW : Hid (gF ≠ 0) := Lib.hid (Nat.ne_of_gt (Nat.lt_of_lt_of_le (World.block_lt_of_cell? _ _ (HFT.out 0 (by decide))) hg)); replace HFT := Lib.hid (HFT.out.below hb); replace HI := keepA HI hb; replace HB := keepB HB hb; have HZ := Lib.hid ha; clear ha hb hg hl) | (refine rowStore (by rfl) 80 _ _ rfl gF rfl #[.int .i64 2, .int .i64 ra, .int .i64 15] rfl HZ.out info66 rfl (by simp [Value.oneCell']) ?_; intro w4 ha ho; replace HFT := Lib.hid (HFT.out.only HTW.out ho); replace HI := keepAo HI HIF.out ho; replace HZ := Lib.hid ha; replace HB := keepBo HB HGF.out ho; have i0 : w4.cell? ⟨gI, 0, none⟩ = some (.int .i64 op) := cellA HI 0; have i4 : w4.cell? ⟨gI, 4, none⟩ = some (.int .i64 im) := cellA HI 4; have x0 : w4.cell? ⟨gF, 0, none⟩ = some (.int .i64 2) := cellA HZ 0; have x1 : w4.cell? ⟨gF, 1, none⟩ = some (.int .i64 ra) := cellA HZ 1; have x2 : w4.cell? ⟨gF, 2, none⟩ = some (.int .i64 15) := cellA HZ 2; clear ha ho))
          go_wp2_with (go_at_call 17; refine (has_any op 2 _ HFT.out).mono ?_; rw [HF.out, HH.out]; rintro e w5 ⟨rfl, rfl⟩)
          go_roundw
          case rel => exact ⟨2, by omega, by first | trivial | go_num | rfl, HR, HFT, HI, HB⟩
          case measure => simp [intOf]
        · have g4 : (ra != 0) = true := bne_iff_ne.2 q4
          rw [g4, if_pos rfl] at hr
          clear q4
          subst hr
          go_upto_region 6 with (first | (refine wlIxa (by rfl) 81 _ _ rfl #[.int .i64 2, .int .i64 ra, .int .i64 15] (fun _ => by kernel_rfl) ?_) | (refine wlAlloc (by rfl) 80 rfl #[.int .i64 0, .int .i64 0, .int .i64 0] zero66 ?_; intro gF w3 hg hl ha hb; have HGF : Hid (w.heap.size ≤ gF) := Lib.hid (Nat.le_trans HB.out.2 hg); have HIF : Hid (gI ≠ gF) := Lib.hid (Nat.ne_of_lt (Nat.lt_of_lt_of_le (Array.getElem?_eq_some_iff.1 HI.out).1 hg)); have HTW : Hid (gF ≠ 0) := Lib.hid (Nat.ne_of_gt (Nat.lt_of_lt_of_le (World.block_lt_of_cell? _ _ (HFT.out 0 (by decide))) hg)); replace HFT := Lib.hid (HFT.out.below hb); replace HI := keepA HI hb; replace HB := keepB HB hb; have HZ := Lib.hid ha; clear ha hb hg hl) | (refine rowStore (by rfl) 80 _ _ rfl gF rfl #[.int .i64 2, .int .i64 ra, .int .i64 15] rfl HZ.out info66 rfl (by simp [Value.oneCell']) ?_; intro w4 ha ho; replace HFT := Lib.hid (HFT.out.only HTW.out ho); replace HI := keepAo HI HIF.out ho; replace HZ := Lib.hid ha; replace HB := keepBo HB HGF.out ho; have i0 : w4.cell? ⟨gI, 0, none⟩ = some (.int .i64 op) := cellA HI 0; have i4 : w4.cell? ⟨gI, 4, none⟩ = some (.int .i64 im) := cellA HI 4; have x0 : w4.cell? ⟨gF, 0, none⟩ = some (.int .i64 2) := cellA HZ 0; have x1 : w4.cell? ⟨gF, 1, none⟩ = some (.int .i64 ra) := cellA HZ 1; have x2 : w4.cell? ⟨gF, 2, none⟩ = some (.int .i64 15) := cellA HZ 2; clear ha ho))
          go_wp2_with (go_at_call 17; refine (has_any op 2 _ HFT.out).mono ?_; rw [HF.out, HH.out]; rintro e w5 ⟨rfl, rfl⟩)
          go_ret
          exact ⟨rfl, HB.out.1⟩
    · obtain rfl : k = 2 := hkk
      have hr : (if badR F 4 rb = true then 1 else tailI F op rd ra rb im 3) = R := HR.out
      clear HR
      obtain ⟨H, hH⟩ : ∃ H, hasV F 4 = H := ⟨_, rfl⟩
      have HH := Lib.hid hH
      unfold badR at hr
      rw [hH] at hr
      clear hH
      by_cases q2 : rb < 0
      · rw [decide_eq_true q2, Bool.true_or, Bool.true_or, if_pos rfl] at hr
        have g2 : decide (rb < 0) = true := decide_eq_true q2
        clear q2
        subst hr
        go_upto_region 6 with (first | (refine wlIxa (by rfl) 81 _ _ rfl #[.int .i64 4, .int .i64 rb, .int .i64 15] (fun _ => by kernel_rfl) ?_) | (refine wlAlloc (by rfl) 80 rfl #[.int .i64 0, .int .i64 0, .int .i64 0] zero66 ?_; intro gF w3 hg hl ha hb; have HGF : Hid (w.heap.size ≤ gF) := Lib.hid (Nat.le_trans HB.out.2 hg); have HIF : Hid (gI ≠ gF) := Lib.hid (Nat.ne_of_lt (Nat.lt_of_lt_of_le (Array.getElem?_eq_some_iff.1 HI.out).1 hg)); have HTW : Hid (gF ≠ 0) := Lib.hid (Nat.ne_of_gt (Nat.lt_of_lt_of_le (World.block_lt_of_cell? _ _ (HFT.out 0 (by decide))) hg)); replace HFT := Lib.hid (HFT.out.below hb); replace HI := keepA HI hb; replace HB := keepB HB hb; have HZ := Lib.hid ha; clear ha hb hg hl) | (refine rowStore (by rfl) 80 _ _ rfl gF rfl #[.int .i64 4, .int .i64 rb, .int .i64 15] rfl HZ.out info66 rfl (by simp [Value.oneCell']) ?_; intro w4 ha ho; replace HFT := Lib.hid (HFT.out.only HTW.out ho); replace HI := keepAo HI HIF.out ho; replace HZ := Lib.hid ha; replace HB := keepBo HB HGF.out ho; have i0 : w4.cell? ⟨gI, 0, none⟩ = some (.int .i64 op) := cellA HI 0; have i4 : w4.cell? ⟨gI, 4, none⟩ = some (.int .i64 im) := cellA HI 4; have x0 : w4.cell? ⟨gF, 0, none⟩ = some (.int .i64 4) := cellA HZ 0; have x1 : w4.cell? ⟨gF, 1, none⟩ = some (.int .i64 rb) := cellA HZ 1; have x2 : w4.cell? ⟨gF, 2, none⟩ = some (.int .i64 15) := cellA HZ 2; clear ha ho))
        go_wp2_with (go_at_call 17; refine (has_any op 4 _ HFT.out).mono ?_; rw [HF.out, HH.out]; rintro e w5 ⟨rfl, rfl⟩)
        go_ret
        exact ⟨rfl, HB.out.1⟩
      rw [decide_eq_false q2, Bool.false_or] at hr
      have g2 : decide (rb < 0) = false := decide_eq_false q2
      by_cases q3 : 15 < rb
      · rw [decide_eq_true q3, Bool.true_or, if_pos rfl] at hr
        have g3 : decide (15 < rb) = true := decide_eq_true q3
        clear q3
        subst hr
        go_upto_region 6 with (first | (refine wlIxa (by rfl) 81 _ _ rfl #[.int .i64 4, .int .i64 rb, .int .i64 15] (fun _ => by kernel_rfl) ?_) | (refine wlAlloc (by rfl) 80 rfl #[.int .i64 0, .int .i64 0, .int .i64 0] zero66 ?_; intro gF w3 hg hl ha hb; have HGF : Hid (w.heap.size ≤ gF) := Lib.hid (Nat.le_trans HB.out.2 hg); have HIF : Hid (gI ≠ gF) := Lib.hid (Nat.ne_of_lt (Nat.lt_of_lt_of_le (Array.getElem?_eq_some_iff.1 HI.out).1 hg)); have HTW : Hid (gF ≠ 0) := Lib.hid (Nat.ne_of_gt (Nat.lt_of_lt_of_le (World.block_lt_of_cell? _ _ (HFT.out 0 (by decide))) hg)); replace HFT := Lib.hid (HFT.out.below hb); replace HI := keepA HI hb; replace HB := keepB HB hb; have HZ := Lib.hid ha; clear ha hb hg hl) | (refine rowStore (by rfl) 80 _ _ rfl gF rfl #[.int .i64 4, .int .i64 rb, .int .i64 15] rfl HZ.out info66 rfl (by simp [Value.oneCell']) ?_; intro w4 ha ho; replace HFT := Lib.hid (HFT.out.only HTW.out ho); replace HI := keepAo HI HIF.out ho; replace HZ := Lib.hid ha; replace HB := keepBo HB HGF.out ho; have i0 : w4.cell? ⟨gI, 0, none⟩ = some (.int .i64 op) := cellA HI 0; have i4 : w4.cell? ⟨gI, 4, none⟩ = some (.int .i64 im) := cellA HI 4; have x0 : w4.cell? ⟨gF, 0, none⟩ = some (.int .i64 4) := cellA HZ 0; have x1 : w4.cell? ⟨gF, 1, none⟩ = some (.int .i64 rb) := cellA HZ 1; have x2 : w4.cell? ⟨gF, 2, none⟩ = some (.int .i64 15) := cellA HZ 2; clear ha ho))
        go_wp2_with (go_at_call 17; refine (has_any op 4 _ HFT.out).mono ?_; rw [HF.out, HH.out]; rintro e w5 ⟨rfl, rfl⟩)
        go_ret
        exact ⟨rfl, HB.out.1⟩
      rw [decide_eq_false q3, Bool.false_or] at hr
      have g3 : decide (15 < rb) = false := decide_eq_false q3
      clear q2 q3
      cases H with
      | true =>
        rw [Bool.not_true, Bool.false_and, if_neg Bool.false_ne_true] at hr
        have HR := Lib.hid hr
        clear hr
        go_upto_region 6 with (first | (refine wlIxa (by rfl) 81 _ _ rfl #[.int .i64 4, .int .i64 rb, .int .i64 15] (fun _ => by kernel_rfl) ?_) | (refine wlAlloc (by rfl) 80 rfl #[.int .i64 0, .int .i64 0, .int .i64 0] zero66 ?_; intro gF w3 hg hl ha hb; have HGF : Hid (w.heap.size ≤ gF) := Lib.hid (Nat.le_trans HB.out.2 hg); have HIF : Hid (gI ≠ gF) := Lib.hid (Nat.ne_of_lt (Nat.lt_of_lt_of_le (Array.getElem?_eq_some_iff.1 HI.out).1 hg)); have HTW : Hid (gF ≠ 0) := Lib.hid (Nat.ne_of_gt (Nat.lt_of_lt_of_le (World.block_lt_of_cell? _ _ (HFT.out 0 (by decide))) hg)); replace HFT := Lib.hid (HFT.out.below hb); replace HI := keepA HI hb; replace HB := keepB HB hb; have HZ := Lib.hid ha; clear ha hb hg hl) | (refine rowStore (by rfl) 80 _ _ rfl gF rfl #[.int .i64 4, .int .i64 rb, .int .i64 15] rfl HZ.out info66 rfl (by simp [Value.oneCell']) ?_; intro w4 ha ho; replace HFT := Lib.hid (HFT.out.only HTW.out ho); replace HI := keepAo HI HIF.out ho; replace HZ := Lib.hid ha; replace HB := keepBo HB HGF.out ho; have i0 : w4.cell? ⟨gI, 0, none⟩ = some (.int .i64 op) := cellA HI 0; have i4 : w4.cell? ⟨gI, 4, none⟩ = some (.int .i64 im) := cellA HI 4; have x0 : w4.cell? ⟨gF, 0, none⟩ = some (.int .i64 4) := cellA HZ 0; have x1 : w4.cell? ⟨gF, 1, none⟩ = some (.int .i64 rb) := cellA HZ 1; have x2 : w4.cell? ⟨gF, 2, none⟩ = some (.int .i64 15) := cellA HZ 2; clear ha ho))
        go_wp2_with (go_at_call 17; refine (has_any op 4 _ HFT.out).mono ?_; rw [HF.out, HH.out]; rintro e w5 ⟨rfl, rfl⟩)
        go_roundw
        case rel => exact ⟨3, by omega, by first | trivial | go_num | rfl, HR, HFT, HI, HB⟩
        case measure => simp [intOf]
      | false =>
        rw [Bool.not_false, Bool.true_and] at hr
        by_cases q4 : rb = 0
        · have g4 : (rb != 0) = false := by rw [q4]; rfl
          rw [g4, if_neg Bool.false_ne_true] at hr
          clear q4
          have HR := Lib.hid hr
          clear hr
          go_upto_region 6 with (first | (refine wlIxa (by rfl) 81 _ _ rfl #[.int .i64 4, .int .i64 rb, .int .i64 15] (fun _ => by kernel_rfl) ?_) | (refine wlAlloc (by rfl) 80 rfl #[.int .i64 0, .int .i64 0, .int .i64 0] zero66 ?_; intro gF w3 hg hl ha hb; have HGF : Hid (w.heap.size ≤ gF) := Lib.hid (Nat.le_trans HB.out.2 hg); have HIF : Hid (gI ≠ gF) := Lib.hid (Nat.ne_of_lt (Nat.lt_of_lt_of_le (Array.getElem?_eq_some_iff.1 HI.out).1 hg)); have HTW : Hid (gF ≠ 0) := Lib.hid (Nat.ne_of_gt (Nat.lt_of_lt_of_le (World.block_lt_of_cell? _ _ (HFT.out 0 (by decide))) hg)); replace HFT := Lib.hid (HFT.out.below hb); replace HI := keepA HI hb; replace HB := keepB HB hb; have HZ := Lib.hid ha; clear ha hb hg hl) | (refine rowStore (by rfl) 80 _ _ rfl gF rfl #[.int .i64 4, .int .i64 rb, .int .i64 15] rfl HZ.out info66 rfl (by simp [Value.oneCell']) ?_; intro w4 ha ho; replace HFT := Lib.hid (HFT.out.only HTW.out ho); replace HI := keepAo HI HIF.out ho; replace HZ := Lib.hid ha; replace HB := keepBo HB HGF.out ho; have i0 : w4.cell? ⟨gI, 0, none⟩ = some (.int .i64 op) := cellA HI 0; have i4 : w4.cell? ⟨gI, 4, none⟩ = some (.int .i64 im) := cellA HI 4; have x0 : w4.cell? ⟨gF, 0, none⟩ = some (.int .i64 4) := cellA HZ 0; have x1 : w4.cell? ⟨gF, 1, none⟩ = some (.int .i64 rb) := cellA HZ 1; have x2 : w4.cell? ⟨gF, 2, none⟩ = some (.int .i64 15) := cellA HZ 2; clear ha ho))
          go_wp2_with (go_at_call 17; refine (has_any op 4 _ HFT.out).mono ?_; rw [HF.out, HH.out]; rintro e w5 ⟨rfl, rfl⟩)
          go_roundw
          case rel => exact ⟨3, by omega, by first | trivial | go_num | rfl, HR, HFT, HI, HB⟩
          case measure => simp [intOf]
        · have g4 : (rb != 0) = true := bne_iff_ne.2 q4
          rw [g4, if_pos rfl] at hr
          clear q4
          subst hr
          go_upto_region 6 with (first | (refine wlIxa (by rfl) 81 _ _ rfl #[.int .i64 4, .int .i64 rb, .int .i64 15] (fun _ => by kernel_rfl) ?_) | (refine wlAlloc (by rfl) 80 rfl #[.int .i64 0, .int .i64 0, .int .i64 0] zero66 ?_; intro gF w3 hg hl ha hb; have HGF : Hid (w.heap.size ≤ gF) := Lib.hid (Nat.le_trans HB.out.2 hg); have HIF : Hid (gI ≠ gF) := Lib.hid (Nat.ne_of_lt (Nat.lt_of_lt_of_le (Array.getElem?_eq_some_iff.1 HI.out).1 hg)); have HTW : Hid (gF ≠ 0) := Lib.hid (Nat.ne_of_gt (Nat.lt_of_lt_of_le (World.block_lt_of_cell? _ _ (HFT.out 0 (by decide))) hg)); replace HFT := Lib.hid (HFT.out.below hb); replace HI := keepA HI hb; replace HB := keepB HB hb; have HZ := Lib.hid ha; clear ha hb hg hl) | (refine rowStore (by rfl) 80 _ _ rfl gF rfl #[.int .i64 4, .int .i64 rb, .int .i64 15] rfl HZ.out info66 rfl (by simp [Value.oneCell']) ?_; intro w4 ha ho; replace HFT := Lib.hid (HFT.out.only HTW.out ho); replace HI := keepAo HI HIF.out ho; replace HZ := Lib.hid ha; replace HB := keepBo HB HGF.out ho; have i0 : w4.cell? ⟨gI, 0, none⟩ = some (.int .i64 op) := cellA HI 0; have i4 : w4.cell? ⟨gI, 4, none⟩ = some (.int .i64 im) := cellA HI 4; have x0 : w4.cell? ⟨gF, 0, none⟩ = some (.int .i64 4) := cellA HZ 0; have x1 : w4.cell? ⟨gF, 1, none⟩ = some (.int .i64 rb) := cellA HZ 1; have x2 : w4.cell? ⟨gF, 2, none⟩ = some (.int .i64 15) := cellA HZ 2; clear ha ho))
          go_wp2_with (go_at_call 17; refine (has_any op 4 _ HFT.out).mono ?_; rw [HF.out, HH.out]; rintro e w5 ⟨rfl, rfl⟩)
          go_ret
          exact ⟨rfl, HB.out.1⟩
    · obtain rfl : k = 3 := hkk
      have hr : (if hasV F 8 = false ∧ im ≠ 0 then 1 else if hasV F 8 = true ∧ withinV op im = false then 3 else 0) = R := HR.out
      clear HR
      obtain ⟨H, hH⟩ : ∃ H, hasV F 8 = H := ⟨_, rfl⟩
      have HH := Lib.hid hH
      rw [hH] at hr
      clear hH
      cases H with
      | false =>
        by_cases q4 : im = 0
        · have g4 : (im != 0) = false := by rw [q4]; rfl
          rw [if_neg (fun q => q.2 q4), if_neg (by simp)] at hr
          subst hr
          clear q4
          go_wp2_with (go_at_call 17; refine (has_any op 8 _ HFT.out).mono ?_; rw [HF.out, HH.out]; rintro e w5 ⟨rfl, rfl⟩)
          go_ret
          exact ⟨rfl, HB.out.1⟩
        · have g4 : (im != 0) = true := bne_iff_ne.2 q4
          rw [if_pos ⟨rfl, q4⟩] at hr
          subst hr
          clear q4
          go_wp2_with (go_at_call 17; refine (has_any op 8 _ HFT.out).mono ?_; rw [HF.out, HH.out]; rintro e w5 ⟨rfl, rfl⟩)
          go_ret
          exact ⟨rfl, HB.out.1⟩
      | true =>
        rw [if_neg (by simp)] at hr
        obtain ⟨Wt, hW⟩ : ∃ b, withinV op im = b := ⟨_, rfl⟩
        rw [hW] at hr
        have HW := Lib.hid hW
        clear hW
        cases Wt with
        | false =>
          rw [if_pos ⟨rfl, rfl⟩] at hr
          subst hr
          go_wp2_with (first | (go_at_call 17; refine (has_any op 8 _ HFT.out).mono ?_; rw [HF.out, HH.out]; rintro e w5 ⟨rfl, rfl⟩) | (go_at_call 30; refine (within_any op im _).mono ?_; rw [HW.out]; rintro e w6 ⟨rfl, rfl⟩))
          go_ret
          exact ⟨rfl, HB.out.1⟩
        | true =>
          rw [if_neg (by simp)] at hr
          subst hr
          go_wp2_with (first | (go_at_call 17; refine (has_any op 8 _ HFT.out).mono ?_; rw [HF.out, HH.out]; rintro e w5 ⟨rfl, rfl⟩) | (go_at_call 30; refine (within_any op im _).mono ?_; rw [HW.out]; rintro e w6 ⟨rfl, rfl⟩))
          go_ret
          exact ⟨rfl, HB.out.1⟩
end Go.Proofs.YtaclidjhgpkmpaaDoor.My
