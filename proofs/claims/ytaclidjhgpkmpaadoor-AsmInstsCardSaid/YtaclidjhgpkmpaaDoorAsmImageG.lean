/- Walk: the image of all that was laid. -/
import Derived.Test.YtaclidjhgpkmpaaDoorAsmT0
set_option linter.unusedVariables false
set_option linter.unusedSimpArgs false
namespace Go.Proofs.YtaclidjhgpkmpaaDoor.My
open Go.RowKit
/-- A byte more, at a place. -/
def stepS (S : List SegV) (at_ : Nat) (b : UInt8) : List SegV :=
  match S.getLast? with
  | some s => if s.at_ + s.d.length = at_ then S.dropLast ++ [⟨s.at_, s.d ++ [b]⟩] else S ++ [⟨at_, [b]⟩]
  | none => [⟨at_, [b]⟩]
/-- The segments of what lies below a place. -/
def segsTo (l : List Bool) (d : List UInt8) : Nat → List SegV
  | 0 => []
  | k + 1 => if l.getD k false = true then stepS (segsTo l d k) k (d.getD k 0) else segsTo l d k
def startN : List UInt8 := [115, 116, 97, 114, 116]
def startV (v : Option Nat) (S : List SegV) : Nat :=
  match v with
  | some v => v
  | none => match S with
    | s :: _ => s.at_
    | [] => 0
def imageV (p : Prg) : Nat × List SegV := (startV (findV p.vals startN) (segsTo p.laid p.data 16384), segsTo p.laid p.data 16384)
theorem step_nil (k : Nat) (b : UInt8) : stepS [] k b = [⟨k, [b]⟩] := rfl
theorem step_new (S : List SegV) (s : SegV) (k : Nat) (b : UInt8) (h : s.at_ + s.d.length ≠ k) : stepS (S ++ [s]) k b = S ++ [s] ++ [⟨k, [b]⟩] := by
  unfold stepS
  rw [show (S ++ [s]).getLast? = some s by simp]
  simp [h]
theorem step_on (S : List SegV) (s : SegV) (k : Nat) (b : UInt8) (h : s.at_ + s.d.length = k) : stepS (S ++ [s]) k b = S ++ [⟨s.at_, s.d ++ [b]⟩] := by
  unfold stepS
  rw [show (S ++ [s]).getLast? = some s by simp]
  simp [h]
theorem infoSB : (Tryd.prog.info? 38).map (·.size) = some 1 := by kernel_rfl
theorem infoU32 : (Tryd.prog.info? 25).map (·.size) = some 1 := by kernel_rfl
theorem data_at {l : List UInt8} {k : Nat} {b : UInt8} (h : l[k]? = some b) : (ma .u8 (ints l))[k]? = some (.int .u8 (b.toNat : Int)) := by simp [ma, ints, h]
theorem segs_apart {w : World} {B g k : Nat} {bt : UInt8} {v : Value} {ms : List SegM} (h : SegsAt w B v ms) (hg : w.heap.size ≤ g) : ∀ a ∈ ms, ∀ j, (dV a).ownBlock = some j → (dV ⟨k, some ⟨g, 0, none⟩, 1, [bt]⟩).ownBlock ≠ some j := fun a ha j hj q => by
  have h1 := own_lt (h.inn a ha) hj
  have h2 : some g = some j := q
  injection h2 with h2
  omega
theorem own_one {w : World} {B g : Nat} {b : UInt8} (h : w.heap[g]? = some (.cells #[.int .u8 (b.toNat : Int)] 5 (0, 0))) (hB : B ≤ g) : OwnB w B (.slice (some ⟨g, 0, none⟩) 1 1) [b] :=
  ⟨rfl, .inr ⟨g, 1, _, rfl, hB, h, Nat.le_refl _, by unfold maxLen; show (1 : Nat) ≤ _; omega, rfl, rfl⟩⟩
theorem row_at {w : World} {B n : Nat} {v : Value} {ms : List SegM} (h : SegsAt w B v ms) (hn : ms.length = n) : w.ownsRow B 40 2 v n ((ms.map sA).flatMap Array.toList) := hn ▸ h.row
theorem row_back {w : World} {B n : Nat} {v : Value} {ms : List SegM} {xs : List Value} (h : w.ownsRow B 40 2 v (n + 1) xs) (hn : ms.length = n) : w.ownsRow B 40 2 v (ms.length + 1) xs := by rw [hn]; exact h
theorem ownB_snoc {w : World} {B c : Nat} {A : Option Addr} {d : List UInt8} {b : UInt8} (h : w.ownsRow B 5 1 (.slice A (d.length + 1) c) (d.length + 1) ((ints d).map (Value.int .u8) ++ (#[.int .u8 (b.toNat : Int)] : Array Value).toList)) : OwnB w B (.slice A (d ++ [b]).length c) (d ++ [b]) := by
  unfold OwnB
  rw [show (d ++ [b]).length = d.length + 1 by simp, show (ints (d ++ [b])).map (Value.int .u8) = (ints d).map (Value.int .u8) ++ (#[.int .u8 (b.toNat : Int)] : Array Value).toList by simp [ints]]
  exact h
/-- What an image's making gives. -/
def ImTo (w w' : World) (I : Nat × List SegV) (e : Ending) : Prop :=
  (∃ (S : Option Addr) (c : Nat) (ms : List SegM), e = .returned (.agg (imA I.1 S ms.length c)) ∧ ms.map SegM.v = I.2 ∧ SegsAt w' w.heap.size (.slice S ms.length c) ms) ∧ Below w.heap.size w w'
set_option maxRecDepth 100000 in
set_option maxHeartbeats 8000000 in
theorem image_any {g : Nat} (B : Nat) (s : PS) (p : Prg) (rs : List RowM) (w : World) (hg : s.gP = g) (hp : PrgAt w B s p rs) (hvs : ∀ q ∈ p.vals, q.2 < 4294967296) :
    Calls Tryd.prog 27 #[.pointer (some ⟨g, 0, none⟩)] w fun e w' => ImTo w w' (imageV p) e := by
  have HG := Lib.hid hg
  have HP := Lib.hid hp
  have HB := startB w
  have HVS := Lib.hid hvs
  obtain ⟨Z, hZ⟩ : ∃ Z, imageV p = Z := ⟨_, rfl⟩
  rw [hZ]
  have HZ := Lib.hid hZ
  clear hp hg hvs hZ
  go_enter Tryd.func27, Tryd.ntmps27
  go_upto_region 1 with (refine wlAlloc (by rfl) 34 rfl (imA 0 none 0 0) zeroIm ?_; intro gR w1 hg hl ha hb; have HGR := Lib.hid hg; replace HB := keepB HB hb; have HR := Lib.hid ha; clear ha hb hg hl)
  go_wp2_with (first | (refine wlBuild rfl 34 #[] rfl (.agg (imA 0 none 0 0)) (by kernel_rfl) ?_) | (refine wlAlloc (by rfl) 34 rfl (imA 0 none 0 0) zeroIm ?_; intro gI w2 hg hl ha hb; have HRI : Hid (gR ≠ gI) := Lib.hid (Nat.ne_of_lt (Nat.lt_of_lt_of_le (Array.getElem?_eq_some_iff.1 HR.out).1 hg)); have HGI : Hid (w.heap.size ≤ gI) := Lib.hid (Nat.le_trans HB.out.2 hg); replace HB := keepB HB hb; replace HR := keepA HR hb; have HI := Lib.hid ha; clear ha hb hg hl) | (refine rowStore (by rfl) 34 _ _ rfl gI rfl (imA 0 none 0 0) rfl HI.out infoIm rfl (imA_one _ _ _ _) ?_; intro w3 ha ho; replace HI := Lib.hid ha; replace HR := keepAo HR HRI.out ho; replace HB := keepBo HB HGI.out ho; have i5 : w3.cell? ⟨g, 5, none⟩ = some (slF s.gL) := (by rw [← HG.out]; exact cell_of_row _ s.gP 5 _ _ _ (HP.out.below HB.out.1).cells); clear ha ho))
  go_loopg [14] 16384 (fun gk j wr => ∃ (k n c : Nat) (S : Option Addr) (ms : List SegM), j = .int .i64 (k : Nat) ∧ k + gk = 16384 ∧ ms.length = n ∧ n ≤ k ∧ Hid (ms.map SegM.v = segsTo p.laid p.data k) ∧ Hid (SegsAt wr w.heap.size (.slice S n c) ms) ∧ Hid (wr.heap[gI]? = some (.cells (imA 0 S n c) 34 (0, 0))) ∧ Hid (wr.heap[gR]? = some (.cells (imA 0 none 0 0) 34 (0, 0))) ∧ Hid (Below w.heap.size w wr ∧ w.heap.size ≤ wr.heap.size))
  case atStart => exact ⟨0, 0, 0, none, [], rfl, by omega, rfl, by omega, Lib.hid rfl, Lib.hid (SegsAt.nil _ _), HI, HR, HB⟩
  case round =>
    clear HI HR HB i5
    obtain ⟨k, n, c, S, ms, rfl, hk, hn, hnk, HM, HSG, HI, HR, HB⟩ := hrel
    have HK := Lib.hid hk
    have HN := Lib.hid hn
    have hn16 : n ≤ 16384 := by omega
    have HNK := Lib.hid hnk
    by_cases hlt : k < 16384
    · obtain ⟨b, hb⟩ : ∃ b, p.laid[k]? = some b := ⟨_, List.getElem?_eq_getElem (by rw [HP.out.ll]; exact hlt)⟩
      obtain ⟨bt, hbt⟩ : ∃ bt, p.data[k]? = some bt := ⟨_, List.getElem?_eq_getElem (by rw [HP.out.ld]; exact hlt)⟩
      have hgb : p.laid.getD k false = b := by rw [List.getD_eq_getElem?_getD, hb]; rfl
      have hgt : p.data.getD k 0 = bt := by rw [List.getD_eq_getElem?_getD, hbt]; rfl
      have HST : Hid (segsTo p.laid p.data (k + 1) = if b = true then stepS (segsTo p.laid p.data k) k bt else segsTo p.laid p.data k) := Lib.hid (by rw [segsTo, hgb, hgt])
      have HPW : Hid (PrgAt wr B s p rs) := Lib.hid (HP.out.below HB.out.1)
      have HDB := Lib.hid hbt
      have i5 : wr.cell? ⟨g, 5, none⟩ = some (slF s.gL) := by rw [← HG.out]; exact cell_of_row _ s.gP 5 _ _ _ HPW.out.cells
      have k5 : wr.cell? ⟨s.gL, k, none⟩ = some (.bool b) := (cell_of_row _ s.gL k _ _ _ HPW.out.laid).trans (mb_get hb)
      have i1 : wr.cell? ⟨gI, 1, none⟩ = some (.slice S n c) := cellA HI 1
      clear hb hbt hgb hgt hk hnk
      cases b with
      | false =>
        have HST2 : Hid (segsTo p.laid p.data (k + 1) = segsTo p.laid p.data k) := Lib.hid (by rw [HST.out, if_neg (by decide)])
        go_wp2
        go_roundg (gk - 1)
        case measure => have := HK.out; omega
        case rel => exact ⟨k + 1, n, c, S, ms, rfl, by have := HK.out; omega, HN.out, by have := HNK.out; omega, Lib.hid (by rw [HST2.out]; exact HM.out), HSG, HI, HR, HB⟩
      | true =>
        have HST2 : Hid (segsTo p.laid p.data (k + 1) = stepS (ms.map SegM.v) k bt) := Lib.hid (by rw [HST.out, if_pos rfl, HM.out])
        have wk : IntKind.u32.wrap (k : Int) = (k : Int) := by rw [IntKind.wrap_u32]; omega
        have HK1 : Hid (k + 1 ≤ 16384) := Lib.hid hlt
        rcases List.eq_nil_or_concat ms with q | ⟨ms0, m, q⟩
        · have hn0 : n = 0 := by rw [← HN.out, q]; rfl
          have hq : (n : Int) - 1 = -1 := by omega
          have HQN := Lib.hid q
          clear q hn0
          go_upto_region 7 with fail
          (replace HI := keepA1 HI; replace HR := keepA1 HR; replace HB := keepB1 HB; replace HSG := Lib.hid (HSG.out.drew 1))
          clear i5 k5 i1
          refine rgStart (S := (fun w' => w'.heap[gI]? = some (.cells (imA 0 S n c) 34 (0, 0)) ∧ (w'.heap[g]? = some (.cells (prgA s p) 68 (0, 0)) ∧ w'.heap[s.gD]? = some (.cells (ma .u8 (ints p.data)) 5 (0, 0))))) (n := 21) #[false, false, false, false, false, false, false, false, false, false, false, false, false, false, false, false, false, false, false, false, false] (by kernel_rfl) rfl rfl ⟨HI.out, by rw [← HG.out]; exact (HP.out.below HB.out.1).cells, (HP.out.below HB.out.1).data⟩ (fun hHeld => ?_)
          refine rgTake (i := 0) (N := some 29) (oi := { dst := some 29, op := Op.move (Operand.tmp 5), type := 3, pos := "asm.go:290", after := #[], guard := none }) (v := ?_) #[true, false, false, false, false, false, false, false, false, false, false, false, false, false, false, false, false, false, false, false, false] rfl rfl (by kernel_rfl) (fun _ _ _ h => h) (Or.inl ⟨by rfl, ?_⟩) hHeld ?_
          rotate_left
          · intro w' hSw; (try dsimp only at hSw); (have i1 : w'.cell? ⟨gI, 1, none⟩ = some (.slice S n c) := cell_of_row _ gI 1 _ _ _ hSw.1; have i4 : w'.cell? ⟨g, 4, none⟩ = some (slF s.gD) := cell_of_row _ g 4 _ _ _ hSw.2.1; have d0 : w'.cell? ⟨s.gD, k, none⟩ = some (.int .u8 (bt.toNat : Int)) := (cell_of_row _ s.gD k _ _ _ hSw.2.2).trans (data_at HDB.out); clear hSw); go_simp; try with_reducible rfl
          simp only [Act.put, List.setIfInBounds_toArray, List.set_cons_zero, List.set_cons_succ]
          refine rgTake (i := 1) (N := some 30) (oi := { dst := some 30, op := Op.binOp BinOp.geq 3 (Operand.tmp 29) (Operand.const (Value.int IntKind.i64 0)) 3, type := 4, pos := "asm.go:290", after := #[{ on := 0, ground := Ground.data }], guard := none }) (v := ?_) #[true, true, false, false, false, false, false, false, false, false, false, false, false, false, false, false, false, false, false, false, false] rfl rfl (by kernel_rfl) (fun _ _ _ h => h) (Or.inl ⟨by rfl, ?_⟩) hHeld ?_
          rotate_left
          · intro w' hSw; (try dsimp only at hSw); (have i1 : w'.cell? ⟨gI, 1, none⟩ = some (.slice S n c) := cell_of_row _ gI 1 _ _ _ hSw.1; have i4 : w'.cell? ⟨g, 4, none⟩ = some (slF s.gD) := cell_of_row _ g 4 _ _ _ hSw.2.1; have d0 : w'.cell? ⟨s.gD, k, none⟩ = some (.int .u8 (bt.toNat : Int)) := (cell_of_row _ s.gD k _ _ _ hSw.2.2).trans (data_at HDB.out); clear hSw); go_simp; try with_reducible rfl
          simp only [Act.put, List.setIfInBounds_toArray, List.set_cons_zero, List.set_cons_succ]
          refine rgTake (i := 2) (N := some 31) (oi := { dst := some 31, op := Op.move (Operand.tmp 30), type := 4, pos := "asm.go:290", after := #[{ on := 1, ground := Ground.data }], guard := none }) (v := ?_) #[true, true, true, false, false, false, false, false, false, false, false, false, false, false, false, false, false, false, false, false, false] rfl rfl (by kernel_rfl) (fun _ _ _ h => h) (Or.inl ⟨by rfl, ?_⟩) hHeld ?_
          rotate_left
          · intro w' hSw; (try dsimp only at hSw); (have i1 : w'.cell? ⟨gI, 1, none⟩ = some (.slice S n c) := cell_of_row _ gI 1 _ _ _ hSw.1; have i4 : w'.cell? ⟨g, 4, none⟩ = some (slF s.gD) := cell_of_row _ g 4 _ _ _ hSw.2.1; have d0 : w'.cell? ⟨s.gD, k, none⟩ = some (.int .u8 (bt.toNat : Int)) := (cell_of_row _ s.gD k _ _ _ hSw.2.2).trans (data_at HDB.out); clear hSw); go_simp; try with_reducible rfl
          simp only [Act.put, List.setIfInBounds_toArray, List.set_cons_zero, List.set_cons_succ]
          refine rgTake (i := 3) (N := some 32) (oi := { dst := some 32, op := Op.fieldAddr 34 (Operand.tmp 3) 1, type := 0, pos := "asm.go:290", after := #[{ on := 2, ground := Ground.guard }], guard := some (2, true) }) (v := undef) #[true, true, true, true, false, false, false, false, false, false, false, false, false, false, false, false, false, false, false, false, false] rfl rfl (by kernel_rfl) (fun _ _ _ h => h) (Or.inr ⟨by rfl, rfl⟩) hHeld ?_
          simp only [Act.put, List.setIfInBounds_toArray, List.set_cons_zero, List.set_cons_succ]
          refine rgTake (i := 4) (N := some 33) (oi := { dst := some 33, op := Op.load 32 (Operand.tmp 32), type := 32, pos := "asm.go:290", after := #[{ on := 3, ground := Ground.data }, { on := 2, ground := Ground.guard }], guard := some (2, true) }) (v := undef) #[true, true, true, true, true, false, false, false, false, false, false, false, false, false, false, false, false, false, false, false, false] rfl rfl (by kernel_rfl) (fun _ _ _ h => h) (Or.inr ⟨by rfl, rfl⟩) hHeld ?_
          simp only [Act.put, List.setIfInBounds_toArray, List.set_cons_zero, List.set_cons_succ]
          refine rgTake (i := 5) (N := some 34) (oi := { dst := some 34, op := Op.move (Operand.tmp 5), type := 3, pos := "asm.go:290", after := #[{ on := 2, ground := Ground.guard }], guard := some (2, true) }) (v := undef) #[true, true, true, true, true, true, false, false, false, false, false, false, false, false, false, false, false, false, false, false, false] rfl rfl (by kernel_rfl) (fun _ _ _ h => h) (Or.inr ⟨by rfl, rfl⟩) hHeld ?_
          simp only [Act.put, List.setIfInBounds_toArray, List.set_cons_zero, List.set_cons_succ]
          refine rgTake (i := 6) (N := some 35) (oi := { dst := some 35, op := Op.indexAddr 32 (Operand.tmp 33) (Operand.tmp 34), type := 0, pos := "asm.go:290", after := #[{ on := 4, ground := Ground.data }, { on := 5, ground := Ground.data }, { on := 2, ground := Ground.guard }], guard := some (2, true) }) (v := undef) #[true, true, true, true, true, true, true, false, false, false, false, false, false, false, false, false, false, false, false, false, false] rfl rfl (by kernel_rfl) (fun _ _ _ h => h) (Or.inr ⟨by rfl, rfl⟩) hHeld ?_
          simp only [Act.put, List.setIfInBounds_toArray, List.set_cons_zero, List.set_cons_succ]
          refine rgTake (i := 7) (N := some 36) (oi := { dst := some 36, op := Op.fieldAddr 40 (Operand.tmp 35) 0, type := 0, pos := "asm.go:290", after := #[{ on := 6, ground := Ground.data }, { on := 2, ground := Ground.guard }], guard := some (2, true) }) (v := undef) #[true, true, true, true, true, true, true, true, false, false, false, false, false, false, false, false, false, false, false, false, false] rfl rfl (by kernel_rfl) (fun _ _ _ h => h) (Or.inr ⟨by rfl, rfl⟩) hHeld ?_
          simp only [Act.put, List.setIfInBounds_toArray, List.set_cons_zero, List.set_cons_succ]
          refine rgTake (i := 8) (N := some 37) (oi := { dst := some 37, op := Op.load 25 (Operand.tmp 36), type := 25, pos := "asm.go:290", after := #[{ on := 7, ground := Ground.data }, { on := 2, ground := Ground.guard }], guard := some (2, true) }) (v := undef) #[true, true, true, true, true, true, true, true, true, false, false, false, false, false, false, false, false, false, false, false, false] rfl rfl (by kernel_rfl) (fun _ _ _ h => h) (Or.inr ⟨by rfl, rfl⟩) hHeld ?_
          simp only [Act.put, List.setIfInBounds_toArray, List.set_cons_zero, List.set_cons_succ]
          refine rgTake (i := 9) (N := some 38) (oi := { dst := some 38, op := Op.convert 25 3 (Operand.tmp 37), type := 3, pos := "asm.go:290", after := #[{ on := 8, ground := Ground.data }, { on := 2, ground := Ground.guard }], guard := some (2, true) }) (v := undef) #[true, true, true, true, true, true, true, true, true, true, false, false, false, false, false, false, false, false, false, false, false] rfl rfl (by kernel_rfl) (fun _ _ _ h => h) (Or.inr ⟨by rfl, rfl⟩) hHeld ?_
          simp only [Act.put, List.setIfInBounds_toArray, List.set_cons_zero, List.set_cons_succ]
          refine rgTake (i := 10) (N := some 39) (oi := { dst := some 39, op := Op.fieldAddr 34 (Operand.tmp 3) 1, type := 0, pos := "asm.go:290", after := #[{ on := 2, ground := Ground.guard }], guard := some (2, true) }) (v := undef) #[true, true, true, true, true, true, true, true, true, true, true, false, false, false, false, false, false, false, false, false, false] rfl rfl (by kernel_rfl) (fun _ _ _ h => h) (Or.inr ⟨by rfl, rfl⟩) hHeld ?_
          simp only [Act.put, List.setIfInBounds_toArray, List.set_cons_zero, List.set_cons_succ]
          refine rgTake (i := 11) (N := some 40) (oi := { dst := some 40, op := Op.load 32 (Operand.tmp 39), type := 32, pos := "asm.go:290", after := #[{ on := 10, ground := Ground.data }, { on := 2, ground := Ground.guard }], guard := some (2, true) }) (v := undef) #[true, true, true, true, true, true, true, true, true, true, true, true, false, false, false, false, false, false, false, false, false] rfl rfl (by kernel_rfl) (fun _ _ _ h => h) (Or.inr ⟨by rfl, rfl⟩) hHeld ?_
          simp only [Act.put, List.setIfInBounds_toArray, List.set_cons_zero, List.set_cons_succ]
          refine rgTake (i := 12) (N := some 41) (oi := { dst := some 41, op := Op.move (Operand.tmp 5), type := 3, pos := "asm.go:290", after := #[{ on := 2, ground := Ground.guard }], guard := some (2, true) }) (v := undef) #[true, true, true, true, true, true, true, true, true, true, true, true, true, false, false, false, false, false, false, false, false] rfl rfl (by kernel_rfl) (fun _ _ _ h => h) (Or.inr ⟨by rfl, rfl⟩) hHeld ?_
          simp only [Act.put, List.setIfInBounds_toArray, List.set_cons_zero, List.set_cons_succ]
          refine rgTake (i := 13) (N := some 42) (oi := { dst := some 42, op := Op.indexAddr 32 (Operand.tmp 40) (Operand.tmp 41), type := 0, pos := "asm.go:290", after := #[{ on := 11, ground := Ground.data }, { on := 12, ground := Ground.data }, { on := 2, ground := Ground.guard }], guard := some (2, true) }) (v := undef) #[true, true, true, true, true, true, true, true, true, true, true, true, true, true, false, false, false, false, false, false, false] rfl rfl (by kernel_rfl) (fun _ _ _ h => h) (Or.inr ⟨by rfl, rfl⟩) hHeld ?_
          simp only [Act.put, List.setIfInBounds_toArray, List.set_cons_zero, List.set_cons_succ]
          refine rgTake (i := 14) (N := some 43) (oi := { dst := some 43, op := Op.fieldAddr 40 (Operand.tmp 42) 1, type := 0, pos := "asm.go:290", after := #[{ on := 13, ground := Ground.data }, { on := 2, ground := Ground.guard }], guard := some (2, true) }) (v := undef) #[true, true, true, true, true, true, true, true, true, true, true, true, true, true, true, false, false, false, false, false, false] rfl rfl (by kernel_rfl) (fun _ _ _ h => h) (Or.inr ⟨by rfl, rfl⟩) hHeld ?_
          simp only [Act.put, List.setIfInBounds_toArray, List.set_cons_zero, List.set_cons_succ]
          refine rgTake (i := 15) (N := some 44) (oi := { dst := some 44, op := Op.load 38 (Operand.tmp 43), type := 38, pos := "asm.go:290", after := #[{ on := 14, ground := Ground.data }, { on := 2, ground := Ground.guard }], guard := some (2, true) }) (v := undef) #[true, true, true, true, true, true, true, true, true, true, true, true, true, true, true, true, false, false, false, false, false] rfl rfl (by kernel_rfl) (fun _ _ _ h => h) (Or.inr ⟨by rfl, rfl⟩) hHeld ?_
          simp only [Act.put, List.setIfInBounds_toArray, List.set_cons_zero, List.set_cons_succ]
          refine rgTake (i := 16) (N := some 45) (oi := { dst := some 45, op := Op.call { callee := Callee.builtin Builtin.len, args := #[Operand.tmp 44], argTypes := #[38] }, type := 3, pos := "asm.go:290", after := #[{ on := 15, ground := Ground.data }, { on := 2, ground := Ground.guard }], guard := some (2, true) }) (v := undef) #[true, true, true, true, true, true, true, true, true, true, true, true, true, true, true, true, true, false, false, false, false] rfl rfl (by kernel_rfl) (fun _ _ _ h => h) (Or.inr ⟨by rfl, rfl⟩) hHeld ?_
          simp only [Act.put, List.setIfInBounds_toArray, List.set_cons_zero, List.set_cons_succ]
          refine rgTake (i := 17) (N := some 46) (oi := { dst := some 46, op := Op.binOp BinOp.add 3 (Operand.tmp 38) (Operand.tmp 45) 3, type := 3, pos := "asm.go:290", after := #[{ on := 9, ground := Ground.data }, { on := 16, ground := Ground.data }, { on := 2, ground := Ground.guard }], guard := some (2, true) }) (v := undef) #[true, true, true, true, true, true, true, true, true, true, true, true, true, true, true, true, true, true, false, false, false] rfl rfl (by kernel_rfl) (fun _ _ _ h => h) (Or.inr ⟨by rfl, rfl⟩) hHeld ?_
          simp only [Act.put, List.setIfInBounds_toArray, List.set_cons_zero, List.set_cons_succ]
          refine rgTake (i := 18) (N := some 47) (oi := { dst := some 47, op := Op.move (Operand.tmp 4), type := 3, pos := "asm.go:290", after := #[{ on := 2, ground := Ground.guard }], guard := some (2, true) }) (v := undef) #[true, true, true, true, true, true, true, true, true, true, true, true, true, true, true, true, true, true, true, false, false] rfl rfl (by kernel_rfl) (fun _ _ _ h => h) (Or.inr ⟨by rfl, rfl⟩) hHeld ?_
          simp only [Act.put, List.setIfInBounds_toArray, List.set_cons_zero, List.set_cons_succ]
          refine rgTake (i := 19) (N := some 48) (oi := { dst := some 48, op := Op.binOp BinOp.eql 3 (Operand.tmp 46) (Operand.tmp 47) 3, type := 4, pos := "asm.go:290", after := #[{ on := 17, ground := Ground.data }, { on := 18, ground := Ground.data }, { on := 2, ground := Ground.guard }], guard := some (2, true) }) (v := undef) #[true, true, true, true, true, true, true, true, true, true, true, true, true, true, true, true, true, true, true, true, false] rfl rfl (by kernel_rfl) (fun _ _ _ h => h) (Or.inr ⟨by rfl, rfl⟩) hHeld ?_
          simp only [Act.put, List.setIfInBounds_toArray, List.set_cons_zero, List.set_cons_succ]
          refine rgTake (i := 20) (N := some 49) (oi := { dst := some 49, op := Op.pick (Operand.tmp 31) (Operand.tmp 48) (Operand.const (Value.bool false)), type := 4, pos := "asm.go:290", after := #[{ on := 2, ground := Ground.data }, { on := 19, ground := Ground.data }], guard := none }) (v := ?_) #[true, true, true, true, true, true, true, true, true, true, true, true, true, true, true, true, true, true, true, true, true] rfl rfl (by kernel_rfl) (fun _ _ _ h => h) (Or.inl ⟨by rfl, ?_⟩) hHeld ?_
          rotate_left
          · intro w' hSw; (try dsimp only at hSw); (have i1 : w'.cell? ⟨gI, 1, none⟩ = some (.slice S n c) := cell_of_row _ gI 1 _ _ _ hSw.1; have i4 : w'.cell? ⟨g, 4, none⟩ = some (slF s.gD) := cell_of_row _ g 4 _ _ _ hSw.2.1; have d0 : w'.cell? ⟨s.gD, k, none⟩ = some (.int .u8 (bt.toNat : Int)) := (cell_of_row _ s.gD k _ _ _ hSw.2.2).trans (data_at HDB.out); clear hSw); go_simp; try with_reducible rfl
          simp only [Act.put, List.setIfInBounds_toArray, List.set_cons_zero, List.set_cons_succ]
          refine rgDone (by kernel_rfl) ?_ _
          go_upto_region 9 with fail
          (replace HI := keepA1 HI; replace HR := keepA1 HR; replace HB := keepB1 HB; replace HSG := Lib.hid (HSG.out.drew 1))
          clear hHeld
          refine rgStartC (S := (fun w' => w'.heap[gI]? = some (.cells (imA 0 S n c) 34 (0, 0)) ∧ (w'.heap[g]? = some (.cells (prgA s p) 68 (0, 0)) ∧ w'.heap[s.gD]? = some (.cells (ma .u8 (ints p.data)) 5 (0, 0))))) (n := 17) 14 #[false, false, false, false, false, false, false, false, false, false, false, false, false, false, false, false, false] (by kernel_rfl) rfl rfl ⟨HI.out, by rw [← HG.out]; exact (HP.out.below HB.out.1).cells, (HP.out.below HB.out.1).data⟩ (fun hHeld => ?_)
          refine rgTakeA (i := 0) (N := some 70) (oi := { dst := some 70, op := Op.fieldAddr 34 (Operand.tmp 3) 1, type := 0, pos := "asm.go:294", after := #[], guard := none }) (v := ?_) #[true, false, false, false, false, false, false, false, false, false, false, false, false, false, false, false, false] rfl rfl (by kernel_rfl) (by kernel_rfl) (fun _ _ _ h => h) (Or.inl ⟨by rfl, ?_⟩) (.inr hHeld.out) ?_
          rotate_left
          · intro w' hSw; clear hSw; go_simp; try with_reducible rfl
          simp only [Act.put, List.setIfInBounds_toArray, List.set_cons_zero, List.set_cons_succ]
          refine rgTakeS (i := 1) (N := some 71) (oi := { dst := some 71, op := Op.load 32 (Operand.tmp 70), type := 32, pos := "asm.go:294", after := #[{ on := 0, ground := Ground.data }], guard := none }) (v := ?_) #[true, true, false, false, false, false, false, false, false, false, false, false, false, false, false, false, false] rfl rfl (by kernel_rfl) (by kernel_rfl) (fun _ _ _ h => h) (Or.inl ⟨by rfl, ?_⟩) hHeld ?_
          rotate_left
          · intro w' hSw; (try dsimp only at hSw); (have i1 : w'.cell? ⟨gI, 1, none⟩ = some (.slice S n c) := cell_of_row _ gI 1 _ _ _ hSw.1; have i4 : w'.cell? ⟨g, 4, none⟩ = some (slF s.gD) := cell_of_row _ g 4 _ _ _ hSw.2.1; have d0 : w'.cell? ⟨s.gD, k, none⟩ = some (.int .u8 (bt.toNat : Int)) := (cell_of_row _ s.gD k _ _ _ hSw.2.2).trans (data_at HDB.out); clear hSw); go_simp; try with_reducible rfl
          simp only [Act.put, List.setIfInBounds_toArray, List.set_cons_zero, List.set_cons_succ]
          refine rgTakeA (i := 2) (N := some 72) (oi := { dst := some 72, op := Op.move (Operand.tmp 4), type := 3, pos := "asm.go:294", after := #[], guard := none }) (v := ?_) #[true, true, true, false, false, false, false, false, false, false, false, false, false, false, false, false, false] rfl rfl (by kernel_rfl) (by kernel_rfl) (fun _ _ _ h => h) (Or.inl ⟨by rfl, ?_⟩) (.inr hHeld.out) ?_
          rotate_left
          · intro w' hSw; clear hSw; go_simp; try with_reducible rfl
          simp only [Act.put, List.setIfInBounds_toArray, List.set_cons_zero, List.set_cons_succ]
          refine rgTakeA (i := 3) (N := some 73) (oi := { dst := some 73, op := Op.convert 3 25 (Operand.tmp 72), type := 25, pos := "asm.go:294", after := #[{ on := 2, ground := Ground.data }], guard := none }) (v := ?_) #[true, true, true, true, false, false, false, false, false, false, false, false, false, false, false, false, false] rfl rfl (by kernel_rfl) (by kernel_rfl) (fun _ _ _ h => h) (Or.inl ⟨by rfl, ?_⟩) (.inr hHeld.out) ?_
          rotate_left
          · intro w' hSw; clear hSw; go_simp; try with_reducible rfl
          simp only [Act.put, List.setIfInBounds_toArray, List.set_cons_zero, List.set_cons_succ]
          refine rgTakeA (i := 4) (N := some 74) (oi := { dst := some 74, op := Op.move (Operand.tmp 0), type := 63, pos := "asm.go:294", after := #[], guard := none }) (v := ?_) #[true, true, true, true, true, false, false, false, false, false, false, false, false, false, false, false, false] rfl rfl (by kernel_rfl) (by kernel_rfl) (fun _ _ _ h => h) (Or.inl ⟨by rfl, ?_⟩) (.inr hHeld.out) ?_
          rotate_left
          · intro w' hSw; clear hSw; go_simp; try with_reducible rfl
          simp only [Act.put, List.setIfInBounds_toArray, List.set_cons_zero, List.set_cons_succ]
          refine rgTakeA (i := 5) (N := some 75) (oi := { dst := some 75, op := Op.nilCheck (Operand.tmp 74), type := 0, pos := "asm.go:294", after := #[{ on := 4, ground := Ground.data }], guard := none }) (v := ?_) #[true, true, true, true, true, true, false, false, false, false, false, false, false, false, false, false, false] rfl rfl (by kernel_rfl) (by kernel_rfl) (fun _ _ _ h => h) (Or.inl ⟨by rfl, ?_⟩) (.inr hHeld.out) ?_
          rotate_left
          · intro w' hSw; clear hSw; go_simp; try with_reducible rfl
          simp only [Act.put, List.setIfInBounds_toArray, List.set_cons_zero, List.set_cons_succ]
          refine rgTakeA (i := 6) (N := some 76) (oi := { dst := some 76, op := Op.fieldAddr 68 (Operand.tmp 75) 4, type := 0, pos := "asm.go:294", after := #[{ on := 5, ground := Ground.data }], guard := none }) (v := ?_) #[true, true, true, true, true, true, true, false, false, false, false, false, false, false, false, false, false] rfl rfl (by kernel_rfl) (by kernel_rfl) (fun _ _ _ h => h) (Or.inl ⟨by rfl, ?_⟩) (.inr hHeld.out) ?_
          rotate_left
          · intro w' hSw; clear hSw; go_simp; try with_reducible rfl
          simp only [Act.put, List.setIfInBounds_toArray, List.set_cons_zero, List.set_cons_succ]
          refine rgTakeD [9, 10, 11, 12, 13] (i := 7) (N := some 77) (oi := { dst := some 77, op := Op.load 38 (Operand.tmp 76), type := 38, pos := "asm.go:294", after := #[{ on := 6, ground := Ground.data }], guard := none }) (v := ?_) #[true, true, true, true, true, true, true, true, false, false, false, false, false, false, false, false, false] rfl rfl (by kernel_rfl) (by kernel_rfl) (fun _ _ _ h => h) (Or.inl ⟨by rfl, ?_⟩) hHeld ?_
          rotate_left
          · intro w' hSw; (try dsimp only at hSw); (have i1 : w'.cell? ⟨gI, 1, none⟩ = some (.slice S n c) := cell_of_row _ gI 1 _ _ _ hSw.1; have i4 : w'.cell? ⟨g, 4, none⟩ = some (slF s.gD) := cell_of_row _ g 4 _ _ _ hSw.2.1; have d0 : w'.cell? ⟨s.gD, k, none⟩ = some (.int .u8 (bt.toNat : Int)) := (cell_of_row _ s.gD k _ _ _ hSw.2.2).trans (data_at HDB.out); clear hSw); go_simp; try with_reducible rfl
          simp only [Act.put, List.setIfInBounds_toArray, List.set_cons_zero, List.set_cons_succ]
          refine rgTakeA (i := 8) (N := some 78) (oi := { dst := some 78, op := Op.move (Operand.tmp 4), type := 3, pos := "asm.go:294", after := #[], guard := none }) (v := ?_) #[true, true, true, true, true, true, true, true, true, false, false, false, false, false, false, false, false] rfl rfl (by kernel_rfl) (by kernel_rfl) (fun _ _ _ h => h) (Or.inl ⟨by rfl, ?_⟩) (.inr hHeld.out) ?_
          rotate_left
          · intro w' hSw; clear hSw; go_simp; try with_reducible rfl
          simp only [Act.put, List.setIfInBounds_toArray, List.set_cons_zero, List.set_cons_succ]
          refine rgTakeA (i := 9) (N := some 79) (oi := { dst := some 79, op := Op.indexAddr 38 (Operand.tmp 77) (Operand.tmp 78), type := 0, pos := "asm.go:294", after := #[{ on := 7, ground := Ground.data }, { on := 8, ground := Ground.data }], guard := none }) (v := ?_) #[true, true, true, true, true, true, true, true, true, true, false, false, false, false, false, false, false] rfl rfl (by kernel_rfl) (by kernel_rfl) (fun _ _ _ h => h) (Or.inl ⟨by rfl, ?_⟩) (.inr hHeld.out) ?_
          rotate_left
          · intro w' hSw; clear hSw; go_simp; try with_reducible rfl
          simp only [Act.put, List.setIfInBounds_toArray, List.set_cons_zero, List.set_cons_succ]
          refine rgTakeD [11, 12, 13] (i := 10) (N := some 80) (oi := { dst := some 80, op := Op.load 5 (Operand.tmp 79), type := 5, pos := "asm.go:294", after := #[{ on := 9, ground := Ground.data }], guard := none }) (v := ?_) #[true, true, true, true, true, true, true, true, true, true, true, false, false, false, false, false, false] rfl rfl (by kernel_rfl) (by kernel_rfl) (fun _ _ _ h => h) (Or.inl ⟨by rfl, ?_⟩) hHeld ?_
          rotate_left
          · intro w' hSw; (try dsimp only at hSw); (have i1 : w'.cell? ⟨gI, 1, none⟩ = some (.slice S n c) := cell_of_row _ gI 1 _ _ _ hSw.1; have i4 : w'.cell? ⟨g, 4, none⟩ = some (slF s.gD) := cell_of_row _ g 4 _ _ _ hSw.2.1; have d0 : w'.cell? ⟨s.gD, k, none⟩ = some (.int .u8 (bt.toNat : Int)) := (cell_of_row _ s.gD k _ _ _ hSw.2.2).trans (data_at HDB.out); clear hSw); go_simp; try with_reducible rfl
          simp only [Act.put, List.setIfInBounds_toArray, List.set_cons_zero, List.set_cons_succ]
          refine rgCallD (i := 11) (N := some 81) (oi := { dst := some 81, op := Op.buildSlice 38 1 #[(0, Operand.tmp 80)], type := 38, pos := "asm.go:294", after := #[{ on := 10, ground := Ground.data }], guard := none }) #[true, true, true, true, true, true, true, true, true, true, true, true, false, false, false, false, false] rfl rfl (by kernel_rfl) (fun K hK => ?_)
          (refine rgLit (by rfl) 38 1 _ rfl #[.int .u8 (bt.toNat : Int)] 5 (fun _ => by kernel_rfl) ?_; intro gd w3 hg1 hg2 ha hb; have HAP := Lib.hid (segs_apart (k := k) (bt := bt) HSG.out hg1); have HO := Lib.hid (own_one ha (Nat.le_trans HB.out.2 hg1)); replace HI := keepA HI hb; replace HR := keepA HR hb; replace HSG := Lib.hid (HSG.out.below hb); replace HB := keepB HB hb; clear ha hb hg1 hg2)
          refine hK.out _ _ ⟨HI.out, by rw [← HG.out]; exact (HP.out.below HB.out.1).cells, (HP.out.below HB.out.1).data⟩ (fun hHeld => ?_)
          (try simp only [Act.put, List.setIfInBounds_toArray, List.set_cons_zero, List.set_cons_succ])
          clear hK K
          refine rgTakeA (i := 12) (N := some 82) (oi := { dst := some 82, op := Op.build 40 #[(0, Operand.tmp 73), (1, Operand.tmp 81)], type := 40, pos := "asm.go:294", after := #[{ on := 3, ground := Ground.data }, { on := 11, ground := Ground.data }], guard := none }) (v := ?_) #[true, true, true, true, true, true, true, true, true, true, true, true, true, false, false, false, false] rfl rfl (by kernel_rfl) (by kernel_rfl) (fun _ _ _ h => h) (Or.inl ⟨by rfl, ?_⟩) (.inr hHeld.out) ?_
          rotate_left
          · intro w' hSw; clear hSw; go_simp; try with_reducible rfl
          simp only [Act.put, List.setIfInBounds_toArray, List.set_cons_zero, List.set_cons_succ]
          refine rgCallD (i := 13) (N := some 83) (oi := { dst := some 83, op := Op.buildSlice 32 1 #[(0, Operand.tmp 82)], type := 32, pos := "asm.go:294", after := #[{ on := 12, ground := Ground.data }], guard := none }) #[true, true, true, true, true, true, true, true, true, true, true, true, true, true, false, false, false] rfl rfl (by kernel_rfl) (fun K hK => ?_)
          (refine rgLit (by rfl) 32 1 _ rfl #[.int .u32 (k : Nat), .slice (some ⟨gd, 0, none⟩) 1 1] 40 (fun _ => by kernel_rfl) ?_; intro gN w4 hg1 hg2 ha hb; replace HO := Lib.hid (ownk_below HO.out hb); replace HI := keepA HI hb; replace HR := keepA HR hb; replace HSG := Lib.hid (HSG.out.below hb); replace HB := keepB HB hb; have HLT := Lib.hid ha; clear ha hb hg1 hg2)
          refine hK.out _ _ ⟨HI.out, by rw [← HG.out]; exact (HP.out.below HB.out.1).cells, (HP.out.below HB.out.1).data⟩ (fun hHeld => ?_)
          (try simp only [Act.put, List.setIfInBounds_toArray, List.set_cons_zero, List.set_cons_succ])
          clear hK K
          refine rgCallC (i := 14) (N := some 84) (oi := { dst := some 84, op := Op.call { callee := Callee.builtin Builtin.append, args := #[Operand.tmp 71, Operand.tmp 83], argTypes := #[32, 32] }, type := 32, pos := "asm.go:294", after := #[{ on := 1, ground := Ground.data }, { on := 13, ground := Ground.data }], guard := none }) #[true, true, true, true, true, true, true, true, true, true, true, true, true, true, true, false, false] rfl rfl (by kernel_rfl) (by rfl) (fun K hK => ?_)
          (refine rgAppRow (by rfl) _ _ 32 40 (.agg #[.int .u32 0, .slice none 0 0]) 2 32 rfl Tryd.underlying32 infoSeg3 rfl (by decide) w.heap.size _ n _ rfl (row_at HSG.out HN.out) #[.int .u32 (k : Nat), .slice (some ⟨gd, 0, none⟩) 1 1] rfl (by simp [Value.oneCell']) gN 1 rfl HLT.out (by unfold maxLen; omega) (by omega) HB.out.2 ?_; intro v2 w5 h1 h2 h3; have HS2 := Lib.hid (HSG.out.push (m := ⟨k, some ⟨gd, 0, none⟩, 1, [bt]⟩) HO.out HK1.out HAP.out (row_back h1 HN.out) h2); obtain ⟨S2, c2, rfl⟩ := own_valk h1; replace HI := keepGrow HI HSG.out.row h2 (by decide); replace HR := keepGrow HR HSG.out.row h2 (by decide); replace HB := keepBw HB h2 (fun j hj => (own_type HSG.out.row hj).1); clear h1 h2 h3 hHeld)
          refine hK.out _ _ ?_
          (try simp only [Act.put, List.setIfInBounds_toArray, List.set_cons_zero, List.set_cons_succ])
          clear hK K
          refine rgTakeA (i := 15) (N := some 85) (oi := { dst := some 85, op := Op.fieldAddr 34 (Operand.tmp 3) 1, type := 0, pos := "asm.go:294", after := #[{ on := 0, ground := Ground.phase }, { on := 1, ground := Ground.phase }, { on := 2, ground := Ground.phase }, { on := 3, ground := Ground.phase }, { on := 4, ground := Ground.phase }, { on := 5, ground := Ground.phase }, { on := 6, ground := Ground.phase }, { on := 7, ground := Ground.phase }, { on := 8, ground := Ground.phase }, { on := 9, ground := Ground.phase }, { on := 10, ground := Ground.phase }, { on := 11, ground := Ground.phase }, { on := 12, ground := Ground.phase }, { on := 13, ground := Ground.phase }, { on := 14, ground := Ground.phase }], guard := none }) (v := ?_) #[true, true, true, true, true, true, true, true, true, true, true, true, true, true, true, true, false] rfl rfl (by kernel_rfl) (by kernel_rfl) (fun _ _ _ h => h) (Or.inl ⟨by rfl, ?_⟩) (.inl (by rfl)) ?_
          rotate_left
          · intro w' hSw; clear hSw; go_simp; try with_reducible rfl
          simp only [Act.put, List.setIfInBounds_toArray, List.set_cons_zero, List.set_cons_succ]
          refine rgCallC (i := 16) (N := none) (oi := { dst := none, op := Op.store 32 (Operand.tmp 85) (Operand.tmp 84), type := 0, pos := "asm.go:294", after := #[{ on := 15, ground := Ground.data }, { on := 14, ground := Ground.data }, { on := 14, ground := Ground.chain }, { on := 0, ground := Ground.phase }, { on := 1, ground := Ground.phase }, { on := 2, ground := Ground.phase }, { on := 3, ground := Ground.phase }, { on := 4, ground := Ground.phase }, { on := 5, ground := Ground.phase }, { on := 6, ground := Ground.phase }, { on := 7, ground := Ground.phase }, { on := 8, ground := Ground.phase }, { on := 9, ground := Ground.phase }, { on := 10, ground := Ground.phase }, { on := 11, ground := Ground.phase }, { on := 12, ground := Ground.phase }, { on := 13, ground := Ground.phase }, { on := 14, ground := Ground.phase }], guard := none }) #[true, true, true, true, true, true, true, true, true, true, true, true, true, true, true, true, true] rfl rfl (by kernel_rfl) (by rfl) (fun K hK => ?_)
          (refine rgCell (by rfl) 32 _ _ rfl gI 1 rfl (.slice S2 (n + 1) c2) rfl rfl rfl HI.out (show 1 < 2 by decide) infoSS ?_; intro w6 ha ho; replace HS2 := Lib.hid (HS2.out.only ho HI.out (by decide) (by decide)); replace HR := keepAo HR HRI.out ho; replace HB := keepBo HB HGI.out ho; replace HI : Hid (w6.heap[gI]? = some (.cells (imA 0 S2 (n + 1) c2) 34 (0, 0))) := Lib.hid ha; clear ha ho)
          refine hK.out _ _ ?_
          clear hK K
          refine rgDoneC (by kernel_rfl) ?_ _
          go_wp2
          go_roundg (gk - 1)
          case measure => have := HK.out; omega
          case rel => exact ⟨k + 1, n + 1, c2, S2, ms ++ [⟨k, some ⟨gd, 0, none⟩, 1, [bt]⟩], rfl, by have := HK.out; omega, by rw [List.length_append, HN.out]; rfl, by have := HNK.out; omega, Lib.hid (by rw [HST2.out, HQN.out]; rfl), HS2, HI, HR, HB⟩
        · (try rw [List.concat_eq_append] at q)
          subst q
          obtain ⟨ua, D, c0, d⟩ := m
          obtain ⟨gs, cap, cur, hv, hBg, hcur, hc0, hc1⟩ := HSG.out.last
          have hsm := HSG.out.sm ⟨ua, D, c0, d⟩ (by simp)
          injection hv with e1 e2 e3
          subst e1
          obtain ⟨q, hq0⟩ : ∃ q, ms0.length = q := ⟨_, rfl⟩
          rw [hq0] at e2 hc0 hc1
          rw [Nat.mul_comm] at hc0 hc1
          have hq : (n : Int) - 1 = (q : Int) := by omega
          have hqn : q < n := by omega
          have HQ := Lib.hid hq0
          have HN1 := Lib.hid e2
          have HC := Lib.hid hcur
          have HE0 := Lib.hid hc0
          have HE1 := Lib.hid hc1
          have HGS := Lib.hid hBg
          have HCZ : Hid (q * 2 + 1 < cur.size) := Lib.hid (Array.getElem?_eq_some_iff.1 hc1).1
          have hua : ua ≤ 16384 := by have : ua + d.length ≤ 16384 := hsm; omega
          have hdl : d.length ≤ 16384 := by have : ua + d.length ≤ 16384 := hsm; omega
          have wua : IntKind.i64.wrap (ua : Int) = (ua : Int) := by rw [IntKind.wrap_i64]; omega
          have wsu : IntKind.i64.wrap ((ua : Int) + (d.length : Int)) = (ua : Int) + (d.length : Int) := by rw [IntKind.wrap_i64]; omega
          have hq0i : (0 : Int) ≤ (q : Int) := by omega
          have hge : decide ((0 : Int) ≤ (q : Int)) = true := decide_eq_true hq0i
          clear hq0 e2 e3 hcur hc0 hc1 hBg hsm cap
          by_cases hend : ua + d.length = k
          · have HSM : Hid (ua + (d ++ [bt]).length ≤ 16384) := Lib.hid (by rw [List.length_append]; show ua + (d.length + 1) ≤ _; omega)
            have qe : ((ua : Int) + (d.length : Int) == (k : Int)) = true := beq_iff_eq.2 (by omega)
            have HEND := Lib.hid hend
            clear hend
            go_upto_region 7 with fail
            (replace HI := keepA1 HI; replace HR := keepA1 HR; replace HB := keepB1 HB; replace HSG := Lib.hid (HSG.out.drew 1))
            replace HC := keepA1 HC
            clear i5 k5 i1
            refine rgStart (S := (fun w' => w'.heap[gI]? = some (.cells (imA 0 (some ⟨gs, 0, none⟩) n c) 34 (0, 0)) ∧ w'.heap[gs]? = some (.cells cur 40 (0, 0)))) (n := 21) #[false, false, false, false, false, false, false, false, false, false, false, false, false, false, false, false, false, false, false, false, false] (by kernel_rfl) rfl rfl ⟨HI.out, HC.out⟩ (fun hHeld => ?_)
            refine rgTake (i := 0) (N := some 29) (oi := { dst := some 29, op := Op.move (Operand.tmp 5), type := 3, pos := "asm.go:290", after := #[], guard := none }) (v := ?_) #[true, false, false, false, false, false, false, false, false, false, false, false, false, false, false, false, false, false, false, false, false] rfl rfl (by kernel_rfl) (fun _ _ _ h => h) (Or.inl ⟨by rfl, ?_⟩) hHeld ?_
            rotate_left
            · intro w' hSw; (try dsimp only at hSw); (have i1 : w'.cell? ⟨gI, 1, none⟩ = some (.slice (some ⟨gs, 0, none⟩) n c) := cell_of_row _ gI 1 _ _ _ hSw.1; have e0 : w'.cell? ⟨gs, q * 2, none⟩ = some (.int .u32 (ua : Nat)) := (cell_of_row _ gs (q * 2) _ _ _ hSw.2).trans HE0.out; have e1 : w'.cell? ⟨gs, q * 2 + 1, none⟩ = some (.slice D d.length c0) := (cell_of_row _ gs (q * 2 + 1) _ _ _ hSw.2).trans HE1.out; clear hSw); go_simp; try with_reducible rfl
            simp only [Act.put, List.setIfInBounds_toArray, List.set_cons_zero, List.set_cons_succ]
            refine rgTake (i := 1) (N := some 30) (oi := { dst := some 30, op := Op.binOp BinOp.geq 3 (Operand.tmp 29) (Operand.const (Value.int IntKind.i64 0)) 3, type := 4, pos := "asm.go:290", after := #[{ on := 0, ground := Ground.data }], guard := none }) (v := ?_) #[true, true, false, false, false, false, false, false, false, false, false, false, false, false, false, false, false, false, false, false, false] rfl rfl (by kernel_rfl) (fun _ _ _ h => h) (Or.inl ⟨by rfl, ?_⟩) hHeld ?_
            rotate_left
            · intro w' hSw; (try dsimp only at hSw); (have i1 : w'.cell? ⟨gI, 1, none⟩ = some (.slice (some ⟨gs, 0, none⟩) n c) := cell_of_row _ gI 1 _ _ _ hSw.1; have e0 : w'.cell? ⟨gs, q * 2, none⟩ = some (.int .u32 (ua : Nat)) := (cell_of_row _ gs (q * 2) _ _ _ hSw.2).trans HE0.out; have e1 : w'.cell? ⟨gs, q * 2 + 1, none⟩ = some (.slice D d.length c0) := (cell_of_row _ gs (q * 2 + 1) _ _ _ hSw.2).trans HE1.out; clear hSw); go_simp; try with_reducible rfl
            simp only [Act.put, List.setIfInBounds_toArray, List.set_cons_zero, List.set_cons_succ]
            refine rgTake (i := 2) (N := some 31) (oi := { dst := some 31, op := Op.move (Operand.tmp 30), type := 4, pos := "asm.go:290", after := #[{ on := 1, ground := Ground.data }], guard := none }) (v := ?_) #[true, true, true, false, false, false, false, false, false, false, false, false, false, false, false, false, false, false, false, false, false] rfl rfl (by kernel_rfl) (fun _ _ _ h => h) (Or.inl ⟨by rfl, ?_⟩) hHeld ?_
            rotate_left
            · intro w' hSw; (try dsimp only at hSw); (have i1 : w'.cell? ⟨gI, 1, none⟩ = some (.slice (some ⟨gs, 0, none⟩) n c) := cell_of_row _ gI 1 _ _ _ hSw.1; have e0 : w'.cell? ⟨gs, q * 2, none⟩ = some (.int .u32 (ua : Nat)) := (cell_of_row _ gs (q * 2) _ _ _ hSw.2).trans HE0.out; have e1 : w'.cell? ⟨gs, q * 2 + 1, none⟩ = some (.slice D d.length c0) := (cell_of_row _ gs (q * 2 + 1) _ _ _ hSw.2).trans HE1.out; clear hSw); go_simp; try with_reducible rfl
            simp only [Act.put, List.setIfInBounds_toArray, List.set_cons_zero, List.set_cons_succ]
            refine rgTake (i := 3) (N := some 32) (oi := { dst := some 32, op := Op.fieldAddr 34 (Operand.tmp 3) 1, type := 0, pos := "asm.go:290", after := #[{ on := 2, ground := Ground.guard }], guard := some (2, true) }) (v := ?_) #[true, true, true, true, false, false, false, false, false, false, false, false, false, false, false, false, false, false, false, false, false] rfl rfl (by kernel_rfl) (fun _ _ _ h => h) (Or.inl ⟨by rfl, ?_⟩) hHeld ?_
            rotate_left
            · intro w' hSw; (try dsimp only at hSw); (have i1 : w'.cell? ⟨gI, 1, none⟩ = some (.slice (some ⟨gs, 0, none⟩) n c) := cell_of_row _ gI 1 _ _ _ hSw.1; have e0 : w'.cell? ⟨gs, q * 2, none⟩ = some (.int .u32 (ua : Nat)) := (cell_of_row _ gs (q * 2) _ _ _ hSw.2).trans HE0.out; have e1 : w'.cell? ⟨gs, q * 2 + 1, none⟩ = some (.slice D d.length c0) := (cell_of_row _ gs (q * 2 + 1) _ _ _ hSw.2).trans HE1.out; clear hSw); go_simp; try with_reducible rfl
            simp only [Act.put, List.setIfInBounds_toArray, List.set_cons_zero, List.set_cons_succ]
            refine rgTake (i := 4) (N := some 33) (oi := { dst := some 33, op := Op.load 32 (Operand.tmp 32), type := 32, pos := "asm.go:290", after := #[{ on := 3, ground := Ground.data }, { on := 2, ground := Ground.guard }], guard := some (2, true) }) (v := ?_) #[true, true, true, true, true, false, false, false, false, false, false, false, false, false, false, false, false, false, false, false, false] rfl rfl (by kernel_rfl) (fun _ _ _ h => h) (Or.inl ⟨by rfl, ?_⟩) hHeld ?_
            rotate_left
            · intro w' hSw; (try dsimp only at hSw); (have i1 : w'.cell? ⟨gI, 1, none⟩ = some (.slice (some ⟨gs, 0, none⟩) n c) := cell_of_row _ gI 1 _ _ _ hSw.1; have e0 : w'.cell? ⟨gs, q * 2, none⟩ = some (.int .u32 (ua : Nat)) := (cell_of_row _ gs (q * 2) _ _ _ hSw.2).trans HE0.out; have e1 : w'.cell? ⟨gs, q * 2 + 1, none⟩ = some (.slice D d.length c0) := (cell_of_row _ gs (q * 2 + 1) _ _ _ hSw.2).trans HE1.out; clear hSw); go_simp; try with_reducible rfl
            simp only [Act.put, List.setIfInBounds_toArray, List.set_cons_zero, List.set_cons_succ]
            refine rgTake (i := 5) (N := some 34) (oi := { dst := some 34, op := Op.move (Operand.tmp 5), type := 3, pos := "asm.go:290", after := #[{ on := 2, ground := Ground.guard }], guard := some (2, true) }) (v := ?_) #[true, true, true, true, true, true, false, false, false, false, false, false, false, false, false, false, false, false, false, false, false] rfl rfl (by kernel_rfl) (fun _ _ _ h => h) (Or.inl ⟨by rfl, ?_⟩) hHeld ?_
            rotate_left
            · intro w' hSw; (try dsimp only at hSw); (have i1 : w'.cell? ⟨gI, 1, none⟩ = some (.slice (some ⟨gs, 0, none⟩) n c) := cell_of_row _ gI 1 _ _ _ hSw.1; have e0 : w'.cell? ⟨gs, q * 2, none⟩ = some (.int .u32 (ua : Nat)) := (cell_of_row _ gs (q * 2) _ _ _ hSw.2).trans HE0.out; have e1 : w'.cell? ⟨gs, q * 2 + 1, none⟩ = some (.slice D d.length c0) := (cell_of_row _ gs (q * 2 + 1) _ _ _ hSw.2).trans HE1.out; clear hSw); go_simp; try with_reducible rfl
            simp only [Act.put, List.setIfInBounds_toArray, List.set_cons_zero, List.set_cons_succ]
            refine rgTake (i := 6) (N := some 35) (oi := { dst := some 35, op := Op.indexAddr 32 (Operand.tmp 33) (Operand.tmp 34), type := 0, pos := "asm.go:290", after := #[{ on := 4, ground := Ground.data }, { on := 5, ground := Ground.data }, { on := 2, ground := Ground.guard }], guard := some (2, true) }) (v := _) #[true, true, true, true, true, true, true, false, false, false, false, false, false, false, false, false, false, false, false, false, false] rfl rfl (by kernel_rfl) (fun _ _ _ h => h) (yieldsIdx0 (by rfl) 32 _ _ rfl 40 2 Tryd.underlying32 sizeSeg gs n c q rfl rfl hqn) hHeld ?_
            simp only [Act.put, List.setIfInBounds_toArray, List.set_cons_zero, List.set_cons_succ]
            refine rgTake (i := 7) (N := some 36) (oi := { dst := some 36, op := Op.fieldAddr 40 (Operand.tmp 35) 0, type := 0, pos := "asm.go:290", after := #[{ on := 6, ground := Ground.data }, { on := 2, ground := Ground.guard }], guard := some (2, true) }) (v := ?_) #[true, true, true, true, true, true, true, true, false, false, false, false, false, false, false, false, false, false, false, false, false] rfl rfl (by kernel_rfl) (fun _ _ _ h => h) (Or.inl ⟨by rfl, ?_⟩) hHeld ?_
            rotate_left
            · intro w' hSw; (try dsimp only at hSw); (have i1 : w'.cell? ⟨gI, 1, none⟩ = some (.slice (some ⟨gs, 0, none⟩) n c) := cell_of_row _ gI 1 _ _ _ hSw.1; have e0 : w'.cell? ⟨gs, q * 2, none⟩ = some (.int .u32 (ua : Nat)) := (cell_of_row _ gs (q * 2) _ _ _ hSw.2).trans HE0.out; have e1 : w'.cell? ⟨gs, q * 2 + 1, none⟩ = some (.slice D d.length c0) := (cell_of_row _ gs (q * 2 + 1) _ _ _ hSw.2).trans HE1.out; clear hSw); go_simp; try with_reducible rfl
            simp only [Act.put, List.setIfInBounds_toArray, List.set_cons_zero, List.set_cons_succ]
            refine rgTake (i := 8) (N := some 37) (oi := { dst := some 37, op := Op.load 25 (Operand.tmp 36), type := 25, pos := "asm.go:290", after := #[{ on := 7, ground := Ground.data }, { on := 2, ground := Ground.guard }], guard := some (2, true) }) (v := ?_) #[true, true, true, true, true, true, true, true, true, false, false, false, false, false, false, false, false, false, false, false, false] rfl rfl (by kernel_rfl) (fun _ _ _ h => h) (Or.inl ⟨by rfl, ?_⟩) hHeld ?_
            rotate_left
            · intro w' hSw; (try dsimp only at hSw); (have i1 : w'.cell? ⟨gI, 1, none⟩ = some (.slice (some ⟨gs, 0, none⟩) n c) := cell_of_row _ gI 1 _ _ _ hSw.1; have e0 : w'.cell? ⟨gs, q * 2, none⟩ = some (.int .u32 (ua : Nat)) := (cell_of_row _ gs (q * 2) _ _ _ hSw.2).trans HE0.out; have e1 : w'.cell? ⟨gs, q * 2 + 1, none⟩ = some (.slice D d.length c0) := (cell_of_row _ gs (q * 2 + 1) _ _ _ hSw.2).trans HE1.out; clear hSw); go_simp; try with_reducible rfl
            simp only [Act.put, List.setIfInBounds_toArray, List.set_cons_zero, List.set_cons_succ]
            refine rgTake (i := 9) (N := some 38) (oi := { dst := some 38, op := Op.convert 25 3 (Operand.tmp 37), type := 3, pos := "asm.go:290", after := #[{ on := 8, ground := Ground.data }, { on := 2, ground := Ground.guard }], guard := some (2, true) }) (v := ?_) #[true, true, true, true, true, true, true, true, true, true, false, false, false, false, false, false, false, false, false, false, false] rfl rfl (by kernel_rfl) (fun _ _ _ h => h) (Or.inl ⟨by rfl, ?_⟩) hHeld ?_
            rotate_left
            · intro w' hSw; (try dsimp only at hSw); (have i1 : w'.cell? ⟨gI, 1, none⟩ = some (.slice (some ⟨gs, 0, none⟩) n c) := cell_of_row _ gI 1 _ _ _ hSw.1; have e0 : w'.cell? ⟨gs, q * 2, none⟩ = some (.int .u32 (ua : Nat)) := (cell_of_row _ gs (q * 2) _ _ _ hSw.2).trans HE0.out; have e1 : w'.cell? ⟨gs, q * 2 + 1, none⟩ = some (.slice D d.length c0) := (cell_of_row _ gs (q * 2 + 1) _ _ _ hSw.2).trans HE1.out; clear hSw); go_simp; try with_reducible rfl
            simp only [Act.put, List.setIfInBounds_toArray, List.set_cons_zero, List.set_cons_succ]
            refine rgTake (i := 10) (N := some 39) (oi := { dst := some 39, op := Op.fieldAddr 34 (Operand.tmp 3) 1, type := 0, pos := "asm.go:290", after := #[{ on := 2, ground := Ground.guard }], guard := some (2, true) }) (v := ?_) #[true, true, true, true, true, true, true, true, true, true, true, false, false, false, false, false, false, false, false, false, false] rfl rfl (by kernel_rfl) (fun _ _ _ h => h) (Or.inl ⟨by rfl, ?_⟩) hHeld ?_
            rotate_left
            · intro w' hSw; (try dsimp only at hSw); (have i1 : w'.cell? ⟨gI, 1, none⟩ = some (.slice (some ⟨gs, 0, none⟩) n c) := cell_of_row _ gI 1 _ _ _ hSw.1; have e0 : w'.cell? ⟨gs, q * 2, none⟩ = some (.int .u32 (ua : Nat)) := (cell_of_row _ gs (q * 2) _ _ _ hSw.2).trans HE0.out; have e1 : w'.cell? ⟨gs, q * 2 + 1, none⟩ = some (.slice D d.length c0) := (cell_of_row _ gs (q * 2 + 1) _ _ _ hSw.2).trans HE1.out; clear hSw); go_simp; try with_reducible rfl
            simp only [Act.put, List.setIfInBounds_toArray, List.set_cons_zero, List.set_cons_succ]
            refine rgTake (i := 11) (N := some 40) (oi := { dst := some 40, op := Op.load 32 (Operand.tmp 39), type := 32, pos := "asm.go:290", after := #[{ on := 10, ground := Ground.data }, { on := 2, ground := Ground.guard }], guard := some (2, true) }) (v := ?_) #[true, true, true, true, true, true, true, true, true, true, true, true, false, false, false, false, false, false, false, false, false] rfl rfl (by kernel_rfl) (fun _ _ _ h => h) (Or.inl ⟨by rfl, ?_⟩) hHeld ?_
            rotate_left
            · intro w' hSw; (try dsimp only at hSw); (have i1 : w'.cell? ⟨gI, 1, none⟩ = some (.slice (some ⟨gs, 0, none⟩) n c) := cell_of_row _ gI 1 _ _ _ hSw.1; have e0 : w'.cell? ⟨gs, q * 2, none⟩ = some (.int .u32 (ua : Nat)) := (cell_of_row _ gs (q * 2) _ _ _ hSw.2).trans HE0.out; have e1 : w'.cell? ⟨gs, q * 2 + 1, none⟩ = some (.slice D d.length c0) := (cell_of_row _ gs (q * 2 + 1) _ _ _ hSw.2).trans HE1.out; clear hSw); go_simp; try with_reducible rfl
            simp only [Act.put, List.setIfInBounds_toArray, List.set_cons_zero, List.set_cons_succ]
            refine rgTake (i := 12) (N := some 41) (oi := { dst := some 41, op := Op.move (Operand.tmp 5), type := 3, pos := "asm.go:290", after := #[{ on := 2, ground := Ground.guard }], guard := some (2, true) }) (v := ?_) #[true, true, true, true, true, true, true, true, true, true, true, true, true, false, false, false, false, false, false, false, false] rfl rfl (by kernel_rfl) (fun _ _ _ h => h) (Or.inl ⟨by rfl, ?_⟩) hHeld ?_
            rotate_left
            · intro w' hSw; (try dsimp only at hSw); (have i1 : w'.cell? ⟨gI, 1, none⟩ = some (.slice (some ⟨gs, 0, none⟩) n c) := cell_of_row _ gI 1 _ _ _ hSw.1; have e0 : w'.cell? ⟨gs, q * 2, none⟩ = some (.int .u32 (ua : Nat)) := (cell_of_row _ gs (q * 2) _ _ _ hSw.2).trans HE0.out; have e1 : w'.cell? ⟨gs, q * 2 + 1, none⟩ = some (.slice D d.length c0) := (cell_of_row _ gs (q * 2 + 1) _ _ _ hSw.2).trans HE1.out; clear hSw); go_simp; try with_reducible rfl
            simp only [Act.put, List.setIfInBounds_toArray, List.set_cons_zero, List.set_cons_succ]
            refine rgTake (i := 13) (N := some 42) (oi := { dst := some 42, op := Op.indexAddr 32 (Operand.tmp 40) (Operand.tmp 41), type := 0, pos := "asm.go:290", after := #[{ on := 11, ground := Ground.data }, { on := 12, ground := Ground.data }, { on := 2, ground := Ground.guard }], guard := some (2, true) }) (v := _) #[true, true, true, true, true, true, true, true, true, true, true, true, true, true, false, false, false, false, false, false, false] rfl rfl (by kernel_rfl) (fun _ _ _ h => h) (yieldsIdx0 (by rfl) 32 _ _ rfl 40 2 Tryd.underlying32 sizeSeg gs n c q rfl rfl hqn) hHeld ?_
            simp only [Act.put, List.setIfInBounds_toArray, List.set_cons_zero, List.set_cons_succ]
            refine rgTake (i := 14) (N := some 43) (oi := { dst := some 43, op := Op.fieldAddr 40 (Operand.tmp 42) 1, type := 0, pos := "asm.go:290", after := #[{ on := 13, ground := Ground.data }, { on := 2, ground := Ground.guard }], guard := some (2, true) }) (v := ?_) #[true, true, true, true, true, true, true, true, true, true, true, true, true, true, true, false, false, false, false, false, false] rfl rfl (by kernel_rfl) (fun _ _ _ h => h) (Or.inl ⟨by rfl, ?_⟩) hHeld ?_
            rotate_left
            · intro w' hSw; (try dsimp only at hSw); (have i1 : w'.cell? ⟨gI, 1, none⟩ = some (.slice (some ⟨gs, 0, none⟩) n c) := cell_of_row _ gI 1 _ _ _ hSw.1; have e0 : w'.cell? ⟨gs, q * 2, none⟩ = some (.int .u32 (ua : Nat)) := (cell_of_row _ gs (q * 2) _ _ _ hSw.2).trans HE0.out; have e1 : w'.cell? ⟨gs, q * 2 + 1, none⟩ = some (.slice D d.length c0) := (cell_of_row _ gs (q * 2 + 1) _ _ _ hSw.2).trans HE1.out; clear hSw); go_simp; try with_reducible rfl
            simp only [Act.put, List.setIfInBounds_toArray, List.set_cons_zero, List.set_cons_succ]
            refine rgTake (i := 15) (N := some 44) (oi := { dst := some 44, op := Op.load 38 (Operand.tmp 43), type := 38, pos := "asm.go:290", after := #[{ on := 14, ground := Ground.data }, { on := 2, ground := Ground.guard }], guard := some (2, true) }) (v := ?_) #[true, true, true, true, true, true, true, true, true, true, true, true, true, true, true, true, false, false, false, false, false] rfl rfl (by kernel_rfl) (fun _ _ _ h => h) (Or.inl ⟨by rfl, ?_⟩) hHeld ?_
            rotate_left
            · intro w' hSw; (try dsimp only at hSw); (have i1 : w'.cell? ⟨gI, 1, none⟩ = some (.slice (some ⟨gs, 0, none⟩) n c) := cell_of_row _ gI 1 _ _ _ hSw.1; have e0 : w'.cell? ⟨gs, q * 2, none⟩ = some (.int .u32 (ua : Nat)) := (cell_of_row _ gs (q * 2) _ _ _ hSw.2).trans HE0.out; have e1 : w'.cell? ⟨gs, q * 2 + 1, none⟩ = some (.slice D d.length c0) := (cell_of_row _ gs (q * 2 + 1) _ _ _ hSw.2).trans HE1.out; clear hSw); go_simp; try with_reducible rfl
            simp only [Act.put, List.setIfInBounds_toArray, List.set_cons_zero, List.set_cons_succ]
            refine rgTake (i := 16) (N := some 45) (oi := { dst := some 45, op := Op.call { callee := Callee.builtin Builtin.len, args := #[Operand.tmp 44], argTypes := #[38] }, type := 3, pos := "asm.go:290", after := #[{ on := 15, ground := Ground.data }, { on := 2, ground := Ground.guard }], guard := some (2, true) }) (v := ?_) #[true, true, true, true, true, true, true, true, true, true, true, true, true, true, true, true, true, false, false, false, false] rfl rfl (by kernel_rfl) (fun _ _ _ h => h) (Or.inl ⟨by rfl, ?_⟩) hHeld ?_
            rotate_left
            · intro w' hSw; (try dsimp only at hSw); (have i1 : w'.cell? ⟨gI, 1, none⟩ = some (.slice (some ⟨gs, 0, none⟩) n c) := cell_of_row _ gI 1 _ _ _ hSw.1; have e0 : w'.cell? ⟨gs, q * 2, none⟩ = some (.int .u32 (ua : Nat)) := (cell_of_row _ gs (q * 2) _ _ _ hSw.2).trans HE0.out; have e1 : w'.cell? ⟨gs, q * 2 + 1, none⟩ = some (.slice D d.length c0) := (cell_of_row _ gs (q * 2 + 1) _ _ _ hSw.2).trans HE1.out; clear hSw); go_simp; try with_reducible rfl
            simp only [Act.put, List.setIfInBounds_toArray, List.set_cons_zero, List.set_cons_succ]
            refine rgTake (i := 17) (N := some 46) (oi := { dst := some 46, op := Op.binOp BinOp.add 3 (Operand.tmp 38) (Operand.tmp 45) 3, type := 3, pos := "asm.go:290", after := #[{ on := 9, ground := Ground.data }, { on := 16, ground := Ground.data }, { on := 2, ground := Ground.guard }], guard := some (2, true) }) (v := ?_) #[true, true, true, true, true, true, true, true, true, true, true, true, true, true, true, true, true, true, false, false, false] rfl rfl (by kernel_rfl) (fun _ _ _ h => h) (Or.inl ⟨by rfl, ?_⟩) hHeld ?_
            rotate_left
            · intro w' hSw; (try dsimp only at hSw); (have i1 : w'.cell? ⟨gI, 1, none⟩ = some (.slice (some ⟨gs, 0, none⟩) n c) := cell_of_row _ gI 1 _ _ _ hSw.1; have e0 : w'.cell? ⟨gs, q * 2, none⟩ = some (.int .u32 (ua : Nat)) := (cell_of_row _ gs (q * 2) _ _ _ hSw.2).trans HE0.out; have e1 : w'.cell? ⟨gs, q * 2 + 1, none⟩ = some (.slice D d.length c0) := (cell_of_row _ gs (q * 2 + 1) _ _ _ hSw.2).trans HE1.out; clear hSw); go_simp; try with_reducible rfl
            simp only [Act.put, List.setIfInBounds_toArray, List.set_cons_zero, List.set_cons_succ]
            refine rgTake (i := 18) (N := some 47) (oi := { dst := some 47, op := Op.move (Operand.tmp 4), type := 3, pos := "asm.go:290", after := #[{ on := 2, ground := Ground.guard }], guard := some (2, true) }) (v := ?_) #[true, true, true, true, true, true, true, true, true, true, true, true, true, true, true, true, true, true, true, false, false] rfl rfl (by kernel_rfl) (fun _ _ _ h => h) (Or.inl ⟨by rfl, ?_⟩) hHeld ?_
            rotate_left
            · intro w' hSw; (try dsimp only at hSw); (have i1 : w'.cell? ⟨gI, 1, none⟩ = some (.slice (some ⟨gs, 0, none⟩) n c) := cell_of_row _ gI 1 _ _ _ hSw.1; have e0 : w'.cell? ⟨gs, q * 2, none⟩ = some (.int .u32 (ua : Nat)) := (cell_of_row _ gs (q * 2) _ _ _ hSw.2).trans HE0.out; have e1 : w'.cell? ⟨gs, q * 2 + 1, none⟩ = some (.slice D d.length c0) := (cell_of_row _ gs (q * 2 + 1) _ _ _ hSw.2).trans HE1.out; clear hSw); go_simp; try with_reducible rfl
            simp only [Act.put, List.setIfInBounds_toArray, List.set_cons_zero, List.set_cons_succ]
            refine rgTake (i := 19) (N := some 48) (oi := { dst := some 48, op := Op.binOp BinOp.eql 3 (Operand.tmp 46) (Operand.tmp 47) 3, type := 4, pos := "asm.go:290", after := #[{ on := 17, ground := Ground.data }, { on := 18, ground := Ground.data }, { on := 2, ground := Ground.guard }], guard := some (2, true) }) (v := ?_) #[true, true, true, true, true, true, true, true, true, true, true, true, true, true, true, true, true, true, true, true, false] rfl rfl (by kernel_rfl) (fun _ _ _ h => h) (Or.inl ⟨by rfl, ?_⟩) hHeld ?_
            rotate_left
            · intro w' hSw; (try dsimp only at hSw); (have i1 : w'.cell? ⟨gI, 1, none⟩ = some (.slice (some ⟨gs, 0, none⟩) n c) := cell_of_row _ gI 1 _ _ _ hSw.1; have e0 : w'.cell? ⟨gs, q * 2, none⟩ = some (.int .u32 (ua : Nat)) := (cell_of_row _ gs (q * 2) _ _ _ hSw.2).trans HE0.out; have e1 : w'.cell? ⟨gs, q * 2 + 1, none⟩ = some (.slice D d.length c0) := (cell_of_row _ gs (q * 2 + 1) _ _ _ hSw.2).trans HE1.out; clear hSw); go_simp; try with_reducible rfl
            simp only [Act.put, List.setIfInBounds_toArray, List.set_cons_zero, List.set_cons_succ]
            refine rgTake (i := 20) (N := some 49) (oi := { dst := some 49, op := Op.pick (Operand.tmp 31) (Operand.tmp 48) (Operand.const (Value.bool false)), type := 4, pos := "asm.go:290", after := #[{ on := 2, ground := Ground.data }, { on := 19, ground := Ground.data }], guard := none }) (v := ?_) #[true, true, true, true, true, true, true, true, true, true, true, true, true, true, true, true, true, true, true, true, true] rfl rfl (by kernel_rfl) (fun _ _ _ h => h) (Or.inl ⟨by rfl, ?_⟩) hHeld ?_
            rotate_left
            · intro w' hSw; (try dsimp only at hSw); (have i1 : w'.cell? ⟨gI, 1, none⟩ = some (.slice (some ⟨gs, 0, none⟩) n c) := cell_of_row _ gI 1 _ _ _ hSw.1; have e0 : w'.cell? ⟨gs, q * 2, none⟩ = some (.int .u32 (ua : Nat)) := (cell_of_row _ gs (q * 2) _ _ _ hSw.2).trans HE0.out; have e1 : w'.cell? ⟨gs, q * 2 + 1, none⟩ = some (.slice D d.length c0) := (cell_of_row _ gs (q * 2 + 1) _ _ _ hSw.2).trans HE1.out; clear hSw); go_simp; try with_reducible rfl
            simp only [Act.put, List.setIfInBounds_toArray, List.set_cons_zero, List.set_cons_succ]
            refine rgDone (by kernel_rfl) ?_ _
            clear hHeld
            go_upto_region 8 with fail
            (replace HI := keepA1 HI; replace HR := keepA1 HR; replace HB := keepB1 HB; replace HSG := Lib.hid (HSG.out.drew 1))
            replace HC := keepA1 HC
            refine rgStartC (S := (fun w' => (w'.heap[gI]? = some (.cells (imA 0 (some ⟨gs, 0, none⟩) n c) 34 (0, 0)) ∧ w'.heap[gs]? = some (.cells cur 40 (0, 0))) ∧ (w'.heap[g]? = some (.cells (prgA s p) 68 (0, 0)) ∧ w'.heap[s.gD]? = some (.cells (ma .u8 (ints p.data)) 5 (0, 0))))) (n := 21) 20 #[false, false, false, false, false, false, false, false, false, false, false, false, false, false, false, false, false, false, false, false, false] (by kernel_rfl) rfl rfl ⟨⟨HI.out, HC.out⟩, by rw [← HG.out]; exact (HP.out.below HB.out.1).cells, (HP.out.below HB.out.1).data⟩ (fun hHeld => ?_)
            refine rgTakeA (i := 0) (N := some 50) (oi := { dst := some 50, op := Op.fieldAddr 34 (Operand.tmp 3) 1, type := 0, pos := "asm.go:291", after := #[], guard := none }) (v := ?_) #[true, false, false, false, false, false, false, false, false, false, false, false, false, false, false, false, false, false, false, false, false] rfl rfl (by kernel_rfl) (by kernel_rfl) (fun _ _ _ h => h) (Or.inl ⟨by rfl, ?_⟩) (.inr hHeld.out) ?_
            rotate_left
            · intro w' hSw; clear hSw; go_simp; try with_reducible rfl
            simp only [Act.put, List.setIfInBounds_toArray, List.set_cons_zero, List.set_cons_succ]
            refine rgTakeS (i := 1) (N := some 51) (oi := { dst := some 51, op := Op.load 32 (Operand.tmp 50), type := 32, pos := "asm.go:291", after := #[{ on := 0, ground := Ground.data }], guard := none }) (v := ?_) #[true, true, false, false, false, false, false, false, false, false, false, false, false, false, false, false, false, false, false, false, false] rfl rfl (by kernel_rfl) (by kernel_rfl) (fun _ _ _ h => h) (Or.inl ⟨by rfl, ?_⟩) hHeld ?_
            rotate_left
            · intro w' hSw; (try dsimp only at hSw); (have i1 : w'.cell? ⟨gI, 1, none⟩ = some (.slice (some ⟨gs, 0, none⟩) n c) := cell_of_row _ gI 1 _ _ _ hSw.1.1; have e0 : w'.cell? ⟨gs, q * 2, none⟩ = some (.int .u32 (ua : Nat)) := (cell_of_row _ gs (q * 2) _ _ _ hSw.1.2).trans HE0.out; have e1 : w'.cell? ⟨gs, q * 2 + 1, none⟩ = some (.slice D d.length c0) := (cell_of_row _ gs (q * 2 + 1) _ _ _ hSw.1.2).trans HE1.out; have i4 : w'.cell? ⟨g, 4, none⟩ = some (slF s.gD) := cell_of_row _ g 4 _ _ _ hSw.2.1; have d0 : w'.cell? ⟨s.gD, k, none⟩ = some (.int .u8 (bt.toNat : Int)) := (cell_of_row _ s.gD k _ _ _ hSw.2.2).trans (data_at HDB.out); clear hSw); go_simp; try with_reducible rfl
            simp only [Act.put, List.setIfInBounds_toArray, List.set_cons_zero, List.set_cons_succ]
            refine rgTakeA (i := 2) (N := some 52) (oi := { dst := some 52, op := Op.move (Operand.tmp 5), type := 3, pos := "asm.go:291", after := #[], guard := none }) (v := ?_) #[true, true, true, false, false, false, false, false, false, false, false, false, false, false, false, false, false, false, false, false, false] rfl rfl (by kernel_rfl) (by kernel_rfl) (fun _ _ _ h => h) (Or.inl ⟨by rfl, ?_⟩) (.inr hHeld.out) ?_
            rotate_left
            · intro w' hSw; clear hSw; go_simp; try with_reducible rfl
            simp only [Act.put, List.setIfInBounds_toArray, List.set_cons_zero, List.set_cons_succ]
            refine rgTakeA (i := 3) (N := some 53) (oi := { dst := some 53, op := Op.fieldAddr 34 (Operand.tmp 3) 1, type := 0, pos := "asm.go:291", after := #[], guard := none }) (v := ?_) #[true, true, true, true, false, false, false, false, false, false, false, false, false, false, false, false, false, false, false, false, false] rfl rfl (by kernel_rfl) (by kernel_rfl) (fun _ _ _ h => h) (Or.inl ⟨by rfl, ?_⟩) (.inr hHeld.out) ?_
            rotate_left
            · intro w' hSw; clear hSw; go_simp; try with_reducible rfl
            simp only [Act.put, List.setIfInBounds_toArray, List.set_cons_zero, List.set_cons_succ]
            refine rgTakeS (i := 4) (N := some 54) (oi := { dst := some 54, op := Op.load 32 (Operand.tmp 53), type := 32, pos := "asm.go:291", after := #[{ on := 3, ground := Ground.data }], guard := none }) (v := ?_) #[true, true, true, true, true, false, false, false, false, false, false, false, false, false, false, false, false, false, false, false, false] rfl rfl (by kernel_rfl) (by kernel_rfl) (fun _ _ _ h => h) (Or.inl ⟨by rfl, ?_⟩) hHeld ?_
            rotate_left
            · intro w' hSw; (try dsimp only at hSw); (have i1 : w'.cell? ⟨gI, 1, none⟩ = some (.slice (some ⟨gs, 0, none⟩) n c) := cell_of_row _ gI 1 _ _ _ hSw.1.1; have e0 : w'.cell? ⟨gs, q * 2, none⟩ = some (.int .u32 (ua : Nat)) := (cell_of_row _ gs (q * 2) _ _ _ hSw.1.2).trans HE0.out; have e1 : w'.cell? ⟨gs, q * 2 + 1, none⟩ = some (.slice D d.length c0) := (cell_of_row _ gs (q * 2 + 1) _ _ _ hSw.1.2).trans HE1.out; have i4 : w'.cell? ⟨g, 4, none⟩ = some (slF s.gD) := cell_of_row _ g 4 _ _ _ hSw.2.1; have d0 : w'.cell? ⟨s.gD, k, none⟩ = some (.int .u8 (bt.toNat : Int)) := (cell_of_row _ s.gD k _ _ _ hSw.2.2).trans (data_at HDB.out); clear hSw); go_simp; try with_reducible rfl
            simp only [Act.put, List.setIfInBounds_toArray, List.set_cons_zero, List.set_cons_succ]
            refine rgTakeA (i := 5) (N := some 55) (oi := { dst := some 55, op := Op.move (Operand.tmp 5), type := 3, pos := "asm.go:291", after := #[], guard := none }) (v := ?_) #[true, true, true, true, true, true, false, false, false, false, false, false, false, false, false, false, false, false, false, false, false] rfl rfl (by kernel_rfl) (by kernel_rfl) (fun _ _ _ h => h) (Or.inl ⟨by rfl, ?_⟩) (.inr hHeld.out) ?_
            rotate_left
            · intro w' hSw; clear hSw; go_simp; try with_reducible rfl
            simp only [Act.put, List.setIfInBounds_toArray, List.set_cons_zero, List.set_cons_succ]
            refine rgTakeA (i := 6) (N := some 56) (oi := { dst := some 56, op := Op.indexAddr 32 (Operand.tmp 54) (Operand.tmp 55), type := 0, pos := "asm.go:291", after := #[{ on := 4, ground := Ground.data }, { on := 5, ground := Ground.data }], guard := none }) (v := _) #[true, true, true, true, true, true, true, false, false, false, false, false, false, false, false, false, false, false, false, false, false] rfl rfl (by kernel_rfl) (by kernel_rfl) (fun _ _ _ h => h) (yieldsIdx0 (by rfl) 32 _ _ rfl 40 2 Tryd.underlying32 sizeSeg gs n c q rfl rfl hqn) (.inr hHeld.out) ?_
            simp only [Act.put, List.setIfInBounds_toArray, List.set_cons_zero, List.set_cons_succ]
            refine rgTakeA (i := 7) (N := some 57) (oi := { dst := some 57, op := Op.fieldAddr 40 (Operand.tmp 56) 1, type := 0, pos := "asm.go:291", after := #[{ on := 6, ground := Ground.data }], guard := none }) (v := ?_) #[true, true, true, true, true, true, true, true, false, false, false, false, false, false, false, false, false, false, false, false, false] rfl rfl (by kernel_rfl) (by kernel_rfl) (fun _ _ _ h => h) (Or.inl ⟨by rfl, ?_⟩) (.inr hHeld.out) ?_
            rotate_left
            · intro w' hSw; clear hSw; go_simp; try with_reducible rfl
            simp only [Act.put, List.setIfInBounds_toArray, List.set_cons_zero, List.set_cons_succ]
            refine rgTakeS (i := 8) (N := some 58) (oi := { dst := some 58, op := Op.load 38 (Operand.tmp 57), type := 38, pos := "asm.go:291", after := #[{ on := 7, ground := Ground.data }], guard := none }) (v := ?_) #[true, true, true, true, true, true, true, true, true, false, false, false, false, false, false, false, false, false, false, false, false] rfl rfl (by kernel_rfl) (by kernel_rfl) (fun _ _ _ h => h) (Or.inl ⟨by rfl, ?_⟩) hHeld ?_
            rotate_left
            · intro w' hSw; (try dsimp only at hSw); (have i1 : w'.cell? ⟨gI, 1, none⟩ = some (.slice (some ⟨gs, 0, none⟩) n c) := cell_of_row _ gI 1 _ _ _ hSw.1.1; have e0 : w'.cell? ⟨gs, q * 2, none⟩ = some (.int .u32 (ua : Nat)) := (cell_of_row _ gs (q * 2) _ _ _ hSw.1.2).trans HE0.out; have e1 : w'.cell? ⟨gs, q * 2 + 1, none⟩ = some (.slice D d.length c0) := (cell_of_row _ gs (q * 2 + 1) _ _ _ hSw.1.2).trans HE1.out; have i4 : w'.cell? ⟨g, 4, none⟩ = some (slF s.gD) := cell_of_row _ g 4 _ _ _ hSw.2.1; have d0 : w'.cell? ⟨s.gD, k, none⟩ = some (.int .u8 (bt.toNat : Int)) := (cell_of_row _ s.gD k _ _ _ hSw.2.2).trans (data_at HDB.out); clear hSw); go_simp; try with_reducible rfl
            simp only [Act.put, List.setIfInBounds_toArray, List.set_cons_zero, List.set_cons_succ]
            refine rgTakeA (i := 9) (N := some 59) (oi := { dst := some 59, op := Op.move (Operand.tmp 0), type := 63, pos := "asm.go:291", after := #[], guard := none }) (v := ?_) #[true, true, true, true, true, true, true, true, true, true, false, false, false, false, false, false, false, false, false, false, false] rfl rfl (by kernel_rfl) (by kernel_rfl) (fun _ _ _ h => h) (Or.inl ⟨by rfl, ?_⟩) (.inr hHeld.out) ?_
            rotate_left
            · intro w' hSw; clear hSw; go_simp; try with_reducible rfl
            simp only [Act.put, List.setIfInBounds_toArray, List.set_cons_zero, List.set_cons_succ]
            refine rgTakeA (i := 10) (N := some 60) (oi := { dst := some 60, op := Op.nilCheck (Operand.tmp 59), type := 0, pos := "asm.go:291", after := #[{ on := 9, ground := Ground.data }], guard := none }) (v := ?_) #[true, true, true, true, true, true, true, true, true, true, true, false, false, false, false, false, false, false, false, false, false] rfl rfl (by kernel_rfl) (by kernel_rfl) (fun _ _ _ h => h) (Or.inl ⟨by rfl, ?_⟩) (.inr hHeld.out) ?_
            rotate_left
            · intro w' hSw; clear hSw; go_simp; try with_reducible rfl
            simp only [Act.put, List.setIfInBounds_toArray, List.set_cons_zero, List.set_cons_succ]
            refine rgTakeA (i := 11) (N := some 61) (oi := { dst := some 61, op := Op.fieldAddr 68 (Operand.tmp 60) 4, type := 0, pos := "asm.go:291", after := #[{ on := 10, ground := Ground.data }], guard := none }) (v := ?_) #[true, true, true, true, true, true, true, true, true, true, true, true, false, false, false, false, false, false, false, false, false] rfl rfl (by kernel_rfl) (by kernel_rfl) (fun _ _ _ h => h) (Or.inl ⟨by rfl, ?_⟩) (.inr hHeld.out) ?_
            rotate_left
            · intro w' hSw; clear hSw; go_simp; try with_reducible rfl
            simp only [Act.put, List.setIfInBounds_toArray, List.set_cons_zero, List.set_cons_succ]
            refine rgTakeS (i := 12) (N := some 62) (oi := { dst := some 62, op := Op.load 38 (Operand.tmp 61), type := 38, pos := "asm.go:291", after := #[{ on := 11, ground := Ground.data }], guard := none }) (v := ?_) #[true, true, true, true, true, true, true, true, true, true, true, true, true, false, false, false, false, false, false, false, false] rfl rfl (by kernel_rfl) (by kernel_rfl) (fun _ _ _ h => h) (Or.inl ⟨by rfl, ?_⟩) hHeld ?_
            rotate_left
            · intro w' hSw; (try dsimp only at hSw); (have i1 : w'.cell? ⟨gI, 1, none⟩ = some (.slice (some ⟨gs, 0, none⟩) n c) := cell_of_row _ gI 1 _ _ _ hSw.1.1; have e0 : w'.cell? ⟨gs, q * 2, none⟩ = some (.int .u32 (ua : Nat)) := (cell_of_row _ gs (q * 2) _ _ _ hSw.1.2).trans HE0.out; have e1 : w'.cell? ⟨gs, q * 2 + 1, none⟩ = some (.slice D d.length c0) := (cell_of_row _ gs (q * 2 + 1) _ _ _ hSw.1.2).trans HE1.out; have i4 : w'.cell? ⟨g, 4, none⟩ = some (slF s.gD) := cell_of_row _ g 4 _ _ _ hSw.2.1; have d0 : w'.cell? ⟨s.gD, k, none⟩ = some (.int .u8 (bt.toNat : Int)) := (cell_of_row _ s.gD k _ _ _ hSw.2.2).trans (data_at HDB.out); clear hSw); go_simp; try with_reducible rfl
            simp only [Act.put, List.setIfInBounds_toArray, List.set_cons_zero, List.set_cons_succ]
            refine rgTakeA (i := 13) (N := some 63) (oi := { dst := some 63, op := Op.move (Operand.tmp 4), type := 3, pos := "asm.go:291", after := #[], guard := none }) (v := ?_) #[true, true, true, true, true, true, true, true, true, true, true, true, true, true, false, false, false, false, false, false, false] rfl rfl (by kernel_rfl) (by kernel_rfl) (fun _ _ _ h => h) (Or.inl ⟨by rfl, ?_⟩) (.inr hHeld.out) ?_
            rotate_left
            · intro w' hSw; clear hSw; go_simp; try with_reducible rfl
            simp only [Act.put, List.setIfInBounds_toArray, List.set_cons_zero, List.set_cons_succ]
            refine rgTakeA (i := 14) (N := some 64) (oi := { dst := some 64, op := Op.indexAddr 38 (Operand.tmp 62) (Operand.tmp 63), type := 0, pos := "asm.go:291", after := #[{ on := 12, ground := Ground.data }, { on := 13, ground := Ground.data }], guard := none }) (v := ?_) #[true, true, true, true, true, true, true, true, true, true, true, true, true, true, true, false, false, false, false, false, false] rfl rfl (by kernel_rfl) (by kernel_rfl) (fun _ _ _ h => h) (Or.inl ⟨by rfl, ?_⟩) (.inr hHeld.out) ?_
            rotate_left
            · intro w' hSw; clear hSw; go_simp; try with_reducible rfl
            simp only [Act.put, List.setIfInBounds_toArray, List.set_cons_zero, List.set_cons_succ]
            refine rgTakeS (i := 15) (N := some 65) (oi := { dst := some 65, op := Op.load 5 (Operand.tmp 64), type := 5, pos := "asm.go:291", after := #[{ on := 14, ground := Ground.data }], guard := none }) (v := ?_) #[true, true, true, true, true, true, true, true, true, true, true, true, true, true, true, true, false, false, false, false, false] rfl rfl (by kernel_rfl) (by kernel_rfl) (fun _ _ _ h => h) (Or.inl ⟨by rfl, ?_⟩) hHeld ?_
            rotate_left
            · intro w' hSw; (try dsimp only at hSw); (have i1 : w'.cell? ⟨gI, 1, none⟩ = some (.slice (some ⟨gs, 0, none⟩) n c) := cell_of_row _ gI 1 _ _ _ hSw.1.1; have e0 : w'.cell? ⟨gs, q * 2, none⟩ = some (.int .u32 (ua : Nat)) := (cell_of_row _ gs (q * 2) _ _ _ hSw.1.2).trans HE0.out; have e1 : w'.cell? ⟨gs, q * 2 + 1, none⟩ = some (.slice D d.length c0) := (cell_of_row _ gs (q * 2 + 1) _ _ _ hSw.1.2).trans HE1.out; have i4 : w'.cell? ⟨g, 4, none⟩ = some (slF s.gD) := cell_of_row _ g 4 _ _ _ hSw.2.1; have d0 : w'.cell? ⟨s.gD, k, none⟩ = some (.int .u8 (bt.toNat : Int)) := (cell_of_row _ s.gD k _ _ _ hSw.2.2).trans (data_at HDB.out); clear hSw); go_simp; try with_reducible rfl
            simp only [Act.put, List.setIfInBounds_toArray, List.set_cons_zero, List.set_cons_succ]
            refine rgCallD (i := 16) (N := some 66) (oi := { dst := some 66, op := Op.buildSlice 38 1 #[(0, Operand.tmp 65)], type := 38, pos := "asm.go:291", after := #[{ on := 15, ground := Ground.data }], guard := none }) #[true, true, true, true, true, true, true, true, true, true, true, true, true, true, true, true, true, false, false, false, false] rfl rfl (by kernel_rfl) (fun K hK => ?_)
            (refine rgLit (by rfl) 38 1 _ rfl #[.int .u8 (bt.toNat : Int)] 5 (fun _ => by kernel_rfl) ?_; intro gd w3 hg1 hg2 ha hb; replace HI := keepA HI hb; replace HR := keepA HR hb; replace HC := keepA HC hb; replace HSG := Lib.hid (HSG.out.below hb); replace HB := keepB HB hb; have HLT := Lib.hid ha; clear ha hb hg1 hg2)
            refine hK.out _ _ ⟨⟨HI.out, HC.out⟩, by rw [← HG.out]; exact (HP.out.below HB.out.1).cells, (HP.out.below HB.out.1).data⟩ (fun hHeld => ?_)
            (try simp only [Act.put, List.setIfInBounds_toArray, List.set_cons_zero, List.set_cons_succ])
            clear hK K
            refine rgCallD (i := 17) (N := some 67) (oi := { dst := some 67, op := Op.call { callee := Callee.builtin Builtin.append, args := #[Operand.tmp 58, Operand.tmp 66], argTypes := #[38, 38] }, type := 38, pos := "asm.go:291", after := #[{ on := 8, ground := Ground.data }, { on := 16, ground := Ground.data }], guard := none }) #[true, true, true, true, true, true, true, true, true, true, true, true, true, true, true, true, true, true, false, false, false] rfl rfl (by kernel_rfl) (fun K hK => ?_)
            (refine rgAppRow (by rfl) _ _ 38 5 (.int .u8 0) 1 1 rfl Tryd.underlying38 infoB rfl (by decide) w.heap.size (.slice D d.length c0) d.length _ rfl (HSG.out.inn ⟨ua, D, c0, d⟩ (by simp)) #[.int .u8 (bt.toNat : Int)] rfl (by simp [Value.oneCell']) gd 1 rfl HLT.out (by unfold maxLen; omega) (by omega) HB.out.2 ?_; intro v2 w5 h1 h2 h3; have HINN := Lib.hid (HSG.out.inn ⟨ua, D, c0, d⟩ (by simp)); have HC0 := HC; have HGR := Lib.hid h2; replace HI := keepGrow HI HINN.out h2 (by decide); replace HR := keepGrow HR HINN.out h2 (by decide); replace HC := keepGrow HC HINN.out h2 (by decide); replace HB := keepBw HB h2 (fun j hj => (own_type HINN.out hj).1); obtain ⟨A2, c2, rfl⟩ := own_valk h1; have hl9 : d.length + 1 = (d ++ [bt]).length := (by simp); have HOWN := Lib.hid (ownB_snoc h1); rw [hl9] at h3; have HBLK : Hid ((dV ⟨ua, A2, c2, d ++ [bt]⟩).ownBlock = (dV ⟨ua, D, c0, d⟩).ownBlock ∨ (dV ⟨ua, A2, c2, d ++ [bt]⟩).ownBlock = some _) := Lib.hid h3; rw [hl9]; clear h1 h2 h3 hl9 hHeld)
            refine hK.out _ _ ⟨⟨HI.out, HC.out⟩, by rw [← HG.out]; exact (HP.out.below HB.out.1).cells, (HP.out.below HB.out.1).data⟩ (fun hHeld => ?_)
            (try simp only [Act.put, List.setIfInBounds_toArray, List.set_cons_zero, List.set_cons_succ])
            clear hK K
            refine rgTakeA (i := 18) (N := some 68) (oi := { dst := some 68, op := Op.indexAddr 32 (Operand.tmp 51) (Operand.tmp 52), type := 0, pos := "asm.go:291", after := #[{ on := 1, ground := Ground.data }, { on := 2, ground := Ground.data }, { on := 0, ground := Ground.phase }, { on := 1, ground := Ground.phase }, { on := 2, ground := Ground.phase }, { on := 3, ground := Ground.phase }, { on := 4, ground := Ground.phase }, { on := 5, ground := Ground.phase }, { on := 6, ground := Ground.phase }, { on := 7, ground := Ground.phase }, { on := 8, ground := Ground.phase }, { on := 9, ground := Ground.phase }, { on := 10, ground := Ground.phase }, { on := 11, ground := Ground.phase }, { on := 12, ground := Ground.phase }, { on := 13, ground := Ground.phase }, { on := 14, ground := Ground.phase }, { on := 15, ground := Ground.phase }, { on := 16, ground := Ground.phase }, { on := 17, ground := Ground.phase }], guard := none }) (v := _) #[true, true, true, true, true, true, true, true, true, true, true, true, true, true, true, true, true, true, true, false, false] rfl rfl (by kernel_rfl) (by kernel_rfl) (fun _ _ _ h => h) (yieldsIdx0 (by rfl) 32 _ _ rfl 40 2 Tryd.underlying32 sizeSeg gs n c q rfl rfl hqn) (.inr hHeld.out) ?_
            simp only [Act.put, List.setIfInBounds_toArray, List.set_cons_zero, List.set_cons_succ]
            refine rgTakeA (i := 19) (N := some 69) (oi := { dst := some 69, op := Op.fieldAddr 40 (Operand.tmp 68) 1, type := 0, pos := "asm.go:291", after := #[{ on := 18, ground := Ground.data }, { on := 0, ground := Ground.phase }, { on := 1, ground := Ground.phase }, { on := 2, ground := Ground.phase }, { on := 3, ground := Ground.phase }, { on := 4, ground := Ground.phase }, { on := 5, ground := Ground.phase }, { on := 6, ground := Ground.phase }, { on := 7, ground := Ground.phase }, { on := 8, ground := Ground.phase }, { on := 9, ground := Ground.phase }, { on := 10, ground := Ground.phase }, { on := 11, ground := Ground.phase }, { on := 12, ground := Ground.phase }, { on := 13, ground := Ground.phase }, { on := 14, ground := Ground.phase }, { on := 15, ground := Ground.phase }, { on := 16, ground := Ground.phase }, { on := 17, ground := Ground.phase }], guard := none }) (v := ?_) #[true, true, true, true, true, true, true, true, true, true, true, true, true, true, true, true, true, true, true, true, false] rfl rfl (by kernel_rfl) (by kernel_rfl) (fun _ _ _ h => h) (Or.inl ⟨by rfl, ?_⟩) (.inr hHeld.out) ?_
            rotate_left
            · intro w' hSw; clear hSw; go_simp; try with_reducible rfl
            simp only [Act.put, List.setIfInBounds_toArray, List.set_cons_zero, List.set_cons_succ]
            refine rgCallC (i := 20) (N := none) (oi := { dst := none, op := Op.store 38 (Operand.tmp 69) (Operand.tmp 67), type := 0, pos := "asm.go:291", after := #[{ on := 19, ground := Ground.data }, { on := 17, ground := Ground.data }, { on := 17, ground := Ground.chain }, { on := 0, ground := Ground.phase }, { on := 1, ground := Ground.phase }, { on := 2, ground := Ground.phase }, { on := 3, ground := Ground.phase }, { on := 4, ground := Ground.phase }, { on := 5, ground := Ground.phase }, { on := 6, ground := Ground.phase }, { on := 7, ground := Ground.phase }, { on := 8, ground := Ground.phase }, { on := 9, ground := Ground.phase }, { on := 10, ground := Ground.phase }, { on := 11, ground := Ground.phase }, { on := 12, ground := Ground.phase }, { on := 13, ground := Ground.phase }, { on := 14, ground := Ground.phase }, { on := 15, ground := Ground.phase }, { on := 16, ground := Ground.phase }, { on := 17, ground := Ground.phase }], guard := none }) #[true, true, true, true, true, true, true, true, true, true, true, true, true, true, true, true, true, true, true, true, true] rfl rfl (by kernel_rfl) (by rfl) (fun K hK => ?_)
            (refine rgCell (by rfl) 38 _ _ rfl gs (q * 2 + 1) rfl (.slice A2 (d ++ [bt]).length c2) rfl rfl rfl HC.out HCZ.out infoSB ?_; intro w6 ha ho; have HS2 : Hid (SegsAt w6 w.heap.size (.slice (some ⟨gs, 0, none⟩) n c) (ms0 ++ [⟨ua, A2, c2, d ++ [bt]⟩])) := Lib.hid (SegsAt.grow2 HQ.out HN1.out HSG.out HC0.out HGR.out HOWN.out rfl HSM.out HBLK.out ha ho); replace HI := keepNe HI HC (by decide) ho; replace HR := keepNe HR HC (by decide) ho; replace HB := keepBo HB HGS.out ho; clear ha ho)
            refine hK.out _ _ ?_
            clear hK K
            refine rgDoneC (by kernel_rfl) ?_ _
            go_wp2
            go_roundg (gk - 1)
            case measure => have := HK.out; omega
            case rel => exact ⟨k + 1, n, c, some ⟨gs, 0, none⟩, ms0 ++ [⟨ua, A2, c2, d ++ [bt]⟩], rfl, by have := HK.out; omega, by rw [List.length_append, HQ.out, HN1.out]; rfl, by have := HNK.out; omega, Lib.hid (by rw [HST2.out]; simp only [List.map_append, List.map_cons, List.map_nil]; exact (step_on (ms0.map SegM.v) ⟨ua, d⟩ k bt HEND.out).symm), HS2, HI, HR, HB⟩
          · have qe : ((ua : Int) + (d.length : Int) == (k : Int)) = false := beq_eq_false_iff_ne.2 (by omega)
            have HEND := Lib.hid hend
            clear hend
            go_upto_region 7 with fail
            (replace HI := keepA1 HI; replace HR := keepA1 HR; replace HB := keepB1 HB; replace HSG := Lib.hid (HSG.out.drew 1))
            replace HC := keepA1 HC
            clear i5 k5 i1
            refine rgStart (S := (fun w' => w'.heap[gI]? = some (.cells (imA 0 (some ⟨gs, 0, none⟩) n c) 34 (0, 0)) ∧ w'.heap[gs]? = some (.cells cur 40 (0, 0)))) (n := 21) #[false, false, false, false, false, false, false, false, false, false, false, false, false, false, false, false, false, false, false, false, false] (by kernel_rfl) rfl rfl ⟨HI.out, HC.out⟩ (fun hHeld => ?_)
            refine rgTake (i := 0) (N := some 29) (oi := { dst := some 29, op := Op.move (Operand.tmp 5), type := 3, pos := "asm.go:290", after := #[], guard := none }) (v := ?_) #[true, false, false, false, false, false, false, false, false, false, false, false, false, false, false, false, false, false, false, false, false] rfl rfl (by kernel_rfl) (fun _ _ _ h => h) (Or.inl ⟨by rfl, ?_⟩) hHeld ?_
            rotate_left
            · intro w' hSw; (try dsimp only at hSw); (have i1 : w'.cell? ⟨gI, 1, none⟩ = some (.slice (some ⟨gs, 0, none⟩) n c) := cell_of_row _ gI 1 _ _ _ hSw.1; have e0 : w'.cell? ⟨gs, q * 2, none⟩ = some (.int .u32 (ua : Nat)) := (cell_of_row _ gs (q * 2) _ _ _ hSw.2).trans HE0.out; have e1 : w'.cell? ⟨gs, q * 2 + 1, none⟩ = some (.slice D d.length c0) := (cell_of_row _ gs (q * 2 + 1) _ _ _ hSw.2).trans HE1.out; clear hSw); go_simp; try with_reducible rfl
            simp only [Act.put, List.setIfInBounds_toArray, List.set_cons_zero, List.set_cons_succ]
            refine rgTake (i := 1) (N := some 30) (oi := { dst := some 30, op := Op.binOp BinOp.geq 3 (Operand.tmp 29) (Operand.const (Value.int IntKind.i64 0)) 3, type := 4, pos := "asm.go:290", after := #[{ on := 0, ground := Ground.data }], guard := none }) (v := ?_) #[true, true, false, false, false, false, false, false, false, false, false, false, false, false, false, false, false, false, false, false, false] rfl rfl (by kernel_rfl) (fun _ _ _ h => h) (Or.inl ⟨by rfl, ?_⟩) hHeld ?_
            rotate_left
            · intro w' hSw; (try dsimp only at hSw); (have i1 : w'.cell? ⟨gI, 1, none⟩ = some (.slice (some ⟨gs, 0, none⟩) n c) := cell_of_row _ gI 1 _ _ _ hSw.1; have e0 : w'.cell? ⟨gs, q * 2, none⟩ = some (.int .u32 (ua : Nat)) := (cell_of_row _ gs (q * 2) _ _ _ hSw.2).trans HE0.out; have e1 : w'.cell? ⟨gs, q * 2 + 1, none⟩ = some (.slice D d.length c0) := (cell_of_row _ gs (q * 2 + 1) _ _ _ hSw.2).trans HE1.out; clear hSw); go_simp; try with_reducible rfl
            simp only [Act.put, List.setIfInBounds_toArray, List.set_cons_zero, List.set_cons_succ]
            refine rgTake (i := 2) (N := some 31) (oi := { dst := some 31, op := Op.move (Operand.tmp 30), type := 4, pos := "asm.go:290", after := #[{ on := 1, ground := Ground.data }], guard := none }) (v := ?_) #[true, true, true, false, false, false, false, false, false, false, false, false, false, false, false, false, false, false, false, false, false] rfl rfl (by kernel_rfl) (fun _ _ _ h => h) (Or.inl ⟨by rfl, ?_⟩) hHeld ?_
            rotate_left
            · intro w' hSw; (try dsimp only at hSw); (have i1 : w'.cell? ⟨gI, 1, none⟩ = some (.slice (some ⟨gs, 0, none⟩) n c) := cell_of_row _ gI 1 _ _ _ hSw.1; have e0 : w'.cell? ⟨gs, q * 2, none⟩ = some (.int .u32 (ua : Nat)) := (cell_of_row _ gs (q * 2) _ _ _ hSw.2).trans HE0.out; have e1 : w'.cell? ⟨gs, q * 2 + 1, none⟩ = some (.slice D d.length c0) := (cell_of_row _ gs (q * 2 + 1) _ _ _ hSw.2).trans HE1.out; clear hSw); go_simp; try with_reducible rfl
            simp only [Act.put, List.setIfInBounds_toArray, List.set_cons_zero, List.set_cons_succ]
            refine rgTake (i := 3) (N := some 32) (oi := { dst := some 32, op := Op.fieldAddr 34 (Operand.tmp 3) 1, type := 0, pos := "asm.go:290", after := #[{ on := 2, ground := Ground.guard }], guard := some (2, true) }) (v := ?_) #[true, true, true, true, false, false, false, false, false, false, false, false, false, false, false, false, false, false, false, false, false] rfl rfl (by kernel_rfl) (fun _ _ _ h => h) (Or.inl ⟨by rfl, ?_⟩) hHeld ?_
            rotate_left
            · intro w' hSw; (try dsimp only at hSw); (have i1 : w'.cell? ⟨gI, 1, none⟩ = some (.slice (some ⟨gs, 0, none⟩) n c) := cell_of_row _ gI 1 _ _ _ hSw.1; have e0 : w'.cell? ⟨gs, q * 2, none⟩ = some (.int .u32 (ua : Nat)) := (cell_of_row _ gs (q * 2) _ _ _ hSw.2).trans HE0.out; have e1 : w'.cell? ⟨gs, q * 2 + 1, none⟩ = some (.slice D d.length c0) := (cell_of_row _ gs (q * 2 + 1) _ _ _ hSw.2).trans HE1.out; clear hSw); go_simp; try with_reducible rfl
            simp only [Act.put, List.setIfInBounds_toArray, List.set_cons_zero, List.set_cons_succ]
            refine rgTake (i := 4) (N := some 33) (oi := { dst := some 33, op := Op.load 32 (Operand.tmp 32), type := 32, pos := "asm.go:290", after := #[{ on := 3, ground := Ground.data }, { on := 2, ground := Ground.guard }], guard := some (2, true) }) (v := ?_) #[true, true, true, true, true, false, false, false, false, false, false, false, false, false, false, false, false, false, false, false, false] rfl rfl (by kernel_rfl) (fun _ _ _ h => h) (Or.inl ⟨by rfl, ?_⟩) hHeld ?_
            rotate_left
            · intro w' hSw; (try dsimp only at hSw); (have i1 : w'.cell? ⟨gI, 1, none⟩ = some (.slice (some ⟨gs, 0, none⟩) n c) := cell_of_row _ gI 1 _ _ _ hSw.1; have e0 : w'.cell? ⟨gs, q * 2, none⟩ = some (.int .u32 (ua : Nat)) := (cell_of_row _ gs (q * 2) _ _ _ hSw.2).trans HE0.out; have e1 : w'.cell? ⟨gs, q * 2 + 1, none⟩ = some (.slice D d.length c0) := (cell_of_row _ gs (q * 2 + 1) _ _ _ hSw.2).trans HE1.out; clear hSw); go_simp; try with_reducible rfl
            simp only [Act.put, List.setIfInBounds_toArray, List.set_cons_zero, List.set_cons_succ]
            refine rgTake (i := 5) (N := some 34) (oi := { dst := some 34, op := Op.move (Operand.tmp 5), type := 3, pos := "asm.go:290", after := #[{ on := 2, ground := Ground.guard }], guard := some (2, true) }) (v := ?_) #[true, true, true, true, true, true, false, false, false, false, false, false, false, false, false, false, false, false, false, false, false] rfl rfl (by kernel_rfl) (fun _ _ _ h => h) (Or.inl ⟨by rfl, ?_⟩) hHeld ?_
            rotate_left
            · intro w' hSw; (try dsimp only at hSw); (have i1 : w'.cell? ⟨gI, 1, none⟩ = some (.slice (some ⟨gs, 0, none⟩) n c) := cell_of_row _ gI 1 _ _ _ hSw.1; have e0 : w'.cell? ⟨gs, q * 2, none⟩ = some (.int .u32 (ua : Nat)) := (cell_of_row _ gs (q * 2) _ _ _ hSw.2).trans HE0.out; have e1 : w'.cell? ⟨gs, q * 2 + 1, none⟩ = some (.slice D d.length c0) := (cell_of_row _ gs (q * 2 + 1) _ _ _ hSw.2).trans HE1.out; clear hSw); go_simp; try with_reducible rfl
            simp only [Act.put, List.setIfInBounds_toArray, List.set_cons_zero, List.set_cons_succ]
            refine rgTake (i := 6) (N := some 35) (oi := { dst := some 35, op := Op.indexAddr 32 (Operand.tmp 33) (Operand.tmp 34), type := 0, pos := "asm.go:290", after := #[{ on := 4, ground := Ground.data }, { on := 5, ground := Ground.data }, { on := 2, ground := Ground.guard }], guard := some (2, true) }) (v := _) #[true, true, true, true, true, true, true, false, false, false, false, false, false, false, false, false, false, false, false, false, false] rfl rfl (by kernel_rfl) (fun _ _ _ h => h) (yieldsIdx0 (by rfl) 32 _ _ rfl 40 2 Tryd.underlying32 sizeSeg gs n c q rfl rfl hqn) hHeld ?_
            simp only [Act.put, List.setIfInBounds_toArray, List.set_cons_zero, List.set_cons_succ]
            refine rgTake (i := 7) (N := some 36) (oi := { dst := some 36, op := Op.fieldAddr 40 (Operand.tmp 35) 0, type := 0, pos := "asm.go:290", after := #[{ on := 6, ground := Ground.data }, { on := 2, ground := Ground.guard }], guard := some (2, true) }) (v := ?_) #[true, true, true, true, true, true, true, true, false, false, false, false, false, false, false, false, false, false, false, false, false] rfl rfl (by kernel_rfl) (fun _ _ _ h => h) (Or.inl ⟨by rfl, ?_⟩) hHeld ?_
            rotate_left
            · intro w' hSw; (try dsimp only at hSw); (have i1 : w'.cell? ⟨gI, 1, none⟩ = some (.slice (some ⟨gs, 0, none⟩) n c) := cell_of_row _ gI 1 _ _ _ hSw.1; have e0 : w'.cell? ⟨gs, q * 2, none⟩ = some (.int .u32 (ua : Nat)) := (cell_of_row _ gs (q * 2) _ _ _ hSw.2).trans HE0.out; have e1 : w'.cell? ⟨gs, q * 2 + 1, none⟩ = some (.slice D d.length c0) := (cell_of_row _ gs (q * 2 + 1) _ _ _ hSw.2).trans HE1.out; clear hSw); go_simp; try with_reducible rfl
            simp only [Act.put, List.setIfInBounds_toArray, List.set_cons_zero, List.set_cons_succ]
            refine rgTake (i := 8) (N := some 37) (oi := { dst := some 37, op := Op.load 25 (Operand.tmp 36), type := 25, pos := "asm.go:290", after := #[{ on := 7, ground := Ground.data }, { on := 2, ground := Ground.guard }], guard := some (2, true) }) (v := ?_) #[true, true, true, true, true, true, true, true, true, false, false, false, false, false, false, false, false, false, false, false, false] rfl rfl (by kernel_rfl) (fun _ _ _ h => h) (Or.inl ⟨by rfl, ?_⟩) hHeld ?_
            rotate_left
            · intro w' hSw; (try dsimp only at hSw); (have i1 : w'.cell? ⟨gI, 1, none⟩ = some (.slice (some ⟨gs, 0, none⟩) n c) := cell_of_row _ gI 1 _ _ _ hSw.1; have e0 : w'.cell? ⟨gs, q * 2, none⟩ = some (.int .u32 (ua : Nat)) := (cell_of_row _ gs (q * 2) _ _ _ hSw.2).trans HE0.out; have e1 : w'.cell? ⟨gs, q * 2 + 1, none⟩ = some (.slice D d.length c0) := (cell_of_row _ gs (q * 2 + 1) _ _ _ hSw.2).trans HE1.out; clear hSw); go_simp; try with_reducible rfl
            simp only [Act.put, List.setIfInBounds_toArray, List.set_cons_zero, List.set_cons_succ]
            refine rgTake (i := 9) (N := some 38) (oi := { dst := some 38, op := Op.convert 25 3 (Operand.tmp 37), type := 3, pos := "asm.go:290", after := #[{ on := 8, ground := Ground.data }, { on := 2, ground := Ground.guard }], guard := some (2, true) }) (v := ?_) #[true, true, true, true, true, true, true, true, true, true, false, false, false, false, false, false, false, false, false, false, false] rfl rfl (by kernel_rfl) (fun _ _ _ h => h) (Or.inl ⟨by rfl, ?_⟩) hHeld ?_
            rotate_left
            · intro w' hSw; (try dsimp only at hSw); (have i1 : w'.cell? ⟨gI, 1, none⟩ = some (.slice (some ⟨gs, 0, none⟩) n c) := cell_of_row _ gI 1 _ _ _ hSw.1; have e0 : w'.cell? ⟨gs, q * 2, none⟩ = some (.int .u32 (ua : Nat)) := (cell_of_row _ gs (q * 2) _ _ _ hSw.2).trans HE0.out; have e1 : w'.cell? ⟨gs, q * 2 + 1, none⟩ = some (.slice D d.length c0) := (cell_of_row _ gs (q * 2 + 1) _ _ _ hSw.2).trans HE1.out; clear hSw); go_simp; try with_reducible rfl
            simp only [Act.put, List.setIfInBounds_toArray, List.set_cons_zero, List.set_cons_succ]
            refine rgTake (i := 10) (N := some 39) (oi := { dst := some 39, op := Op.fieldAddr 34 (Operand.tmp 3) 1, type := 0, pos := "asm.go:290", after := #[{ on := 2, ground := Ground.guard }], guard := some (2, true) }) (v := ?_) #[true, true, true, true, true, true, true, true, true, true, true, false, false, false, false, false, false, false, false, false, false] rfl rfl (by kernel_rfl) (fun _ _ _ h => h) (Or.inl ⟨by rfl, ?_⟩) hHeld ?_
            rotate_left
            · intro w' hSw; (try dsimp only at hSw); (have i1 : w'.cell? ⟨gI, 1, none⟩ = some (.slice (some ⟨gs, 0, none⟩) n c) := cell_of_row _ gI 1 _ _ _ hSw.1; have e0 : w'.cell? ⟨gs, q * 2, none⟩ = some (.int .u32 (ua : Nat)) := (cell_of_row _ gs (q * 2) _ _ _ hSw.2).trans HE0.out; have e1 : w'.cell? ⟨gs, q * 2 + 1, none⟩ = some (.slice D d.length c0) := (cell_of_row _ gs (q * 2 + 1) _ _ _ hSw.2).trans HE1.out; clear hSw); go_simp; try with_reducible rfl
            simp only [Act.put, List.setIfInBounds_toArray, List.set_cons_zero, List.set_cons_succ]
            refine rgTake (i := 11) (N := some 40) (oi := { dst := some 40, op := Op.load 32 (Operand.tmp 39), type := 32, pos := "asm.go:290", after := #[{ on := 10, ground := Ground.data }, { on := 2, ground := Ground.guard }], guard := some (2, true) }) (v := ?_) #[true, true, true, true, true, true, true, true, true, true, true, true, false, false, false, false, false, false, false, false, false] rfl rfl (by kernel_rfl) (fun _ _ _ h => h) (Or.inl ⟨by rfl, ?_⟩) hHeld ?_
            rotate_left
            · intro w' hSw; (try dsimp only at hSw); (have i1 : w'.cell? ⟨gI, 1, none⟩ = some (.slice (some ⟨gs, 0, none⟩) n c) := cell_of_row _ gI 1 _ _ _ hSw.1; have e0 : w'.cell? ⟨gs, q * 2, none⟩ = some (.int .u32 (ua : Nat)) := (cell_of_row _ gs (q * 2) _ _ _ hSw.2).trans HE0.out; have e1 : w'.cell? ⟨gs, q * 2 + 1, none⟩ = some (.slice D d.length c0) := (cell_of_row _ gs (q * 2 + 1) _ _ _ hSw.2).trans HE1.out; clear hSw); go_simp; try with_reducible rfl
            simp only [Act.put, List.setIfInBounds_toArray, List.set_cons_zero, List.set_cons_succ]
            refine rgTake (i := 12) (N := some 41) (oi := { dst := some 41, op := Op.move (Operand.tmp 5), type := 3, pos := "asm.go:290", after := #[{ on := 2, ground := Ground.guard }], guard := some (2, true) }) (v := ?_) #[true, true, true, true, true, true, true, true, true, true, true, true, true, false, false, false, false, false, false, false, false] rfl rfl (by kernel_rfl) (fun _ _ _ h => h) (Or.inl ⟨by rfl, ?_⟩) hHeld ?_
            rotate_left
            · intro w' hSw; (try dsimp only at hSw); (have i1 : w'.cell? ⟨gI, 1, none⟩ = some (.slice (some ⟨gs, 0, none⟩) n c) := cell_of_row _ gI 1 _ _ _ hSw.1; have e0 : w'.cell? ⟨gs, q * 2, none⟩ = some (.int .u32 (ua : Nat)) := (cell_of_row _ gs (q * 2) _ _ _ hSw.2).trans HE0.out; have e1 : w'.cell? ⟨gs, q * 2 + 1, none⟩ = some (.slice D d.length c0) := (cell_of_row _ gs (q * 2 + 1) _ _ _ hSw.2).trans HE1.out; clear hSw); go_simp; try with_reducible rfl
            simp only [Act.put, List.setIfInBounds_toArray, List.set_cons_zero, List.set_cons_succ]
            refine rgTake (i := 13) (N := some 42) (oi := { dst := some 42, op := Op.indexAddr 32 (Operand.tmp 40) (Operand.tmp 41), type := 0, pos := "asm.go:290", after := #[{ on := 11, ground := Ground.data }, { on := 12, ground := Ground.data }, { on := 2, ground := Ground.guard }], guard := some (2, true) }) (v := _) #[true, true, true, true, true, true, true, true, true, true, true, true, true, true, false, false, false, false, false, false, false] rfl rfl (by kernel_rfl) (fun _ _ _ h => h) (yieldsIdx0 (by rfl) 32 _ _ rfl 40 2 Tryd.underlying32 sizeSeg gs n c q rfl rfl hqn) hHeld ?_
            simp only [Act.put, List.setIfInBounds_toArray, List.set_cons_zero, List.set_cons_succ]
            refine rgTake (i := 14) (N := some 43) (oi := { dst := some 43, op := Op.fieldAddr 40 (Operand.tmp 42) 1, type := 0, pos := "asm.go:290", after := #[{ on := 13, ground := Ground.data }, { on := 2, ground := Ground.guard }], guard := some (2, true) }) (v := ?_) #[true, true, true, true, true, true, true, true, true, true, true, true, true, true, true, false, false, false, false, false, false] rfl rfl (by kernel_rfl) (fun _ _ _ h => h) (Or.inl ⟨by rfl, ?_⟩) hHeld ?_
            rotate_left
            · intro w' hSw; (try dsimp only at hSw); (have i1 : w'.cell? ⟨gI, 1, none⟩ = some (.slice (some ⟨gs, 0, none⟩) n c) := cell_of_row _ gI 1 _ _ _ hSw.1; have e0 : w'.cell? ⟨gs, q * 2, none⟩ = some (.int .u32 (ua : Nat)) := (cell_of_row _ gs (q * 2) _ _ _ hSw.2).trans HE0.out; have e1 : w'.cell? ⟨gs, q * 2 + 1, none⟩ = some (.slice D d.length c0) := (cell_of_row _ gs (q * 2 + 1) _ _ _ hSw.2).trans HE1.out; clear hSw); go_simp; try with_reducible rfl
            simp only [Act.put, List.setIfInBounds_toArray, List.set_cons_zero, List.set_cons_succ]
            refine rgTake (i := 15) (N := some 44) (oi := { dst := some 44, op := Op.load 38 (Operand.tmp 43), type := 38, pos := "asm.go:290", after := #[{ on := 14, ground := Ground.data }, { on := 2, ground := Ground.guard }], guard := some (2, true) }) (v := ?_) #[true, true, true, true, true, true, true, true, true, true, true, true, true, true, true, true, false, false, false, false, false] rfl rfl (by kernel_rfl) (fun _ _ _ h => h) (Or.inl ⟨by rfl, ?_⟩) hHeld ?_
            rotate_left
            · intro w' hSw; (try dsimp only at hSw); (have i1 : w'.cell? ⟨gI, 1, none⟩ = some (.slice (some ⟨gs, 0, none⟩) n c) := cell_of_row _ gI 1 _ _ _ hSw.1; have e0 : w'.cell? ⟨gs, q * 2, none⟩ = some (.int .u32 (ua : Nat)) := (cell_of_row _ gs (q * 2) _ _ _ hSw.2).trans HE0.out; have e1 : w'.cell? ⟨gs, q * 2 + 1, none⟩ = some (.slice D d.length c0) := (cell_of_row _ gs (q * 2 + 1) _ _ _ hSw.2).trans HE1.out; clear hSw); go_simp; try with_reducible rfl
            simp only [Act.put, List.setIfInBounds_toArray, List.set_cons_zero, List.set_cons_succ]
            refine rgTake (i := 16) (N := some 45) (oi := { dst := some 45, op := Op.call { callee := Callee.builtin Builtin.len, args := #[Operand.tmp 44], argTypes := #[38] }, type := 3, pos := "asm.go:290", after := #[{ on := 15, ground := Ground.data }, { on := 2, ground := Ground.guard }], guard := some (2, true) }) (v := ?_) #[true, true, true, true, true, true, true, true, true, true, true, true, true, true, true, true, true, false, false, false, false] rfl rfl (by kernel_rfl) (fun _ _ _ h => h) (Or.inl ⟨by rfl, ?_⟩) hHeld ?_
            rotate_left
            · intro w' hSw; (try dsimp only at hSw); (have i1 : w'.cell? ⟨gI, 1, none⟩ = some (.slice (some ⟨gs, 0, none⟩) n c) := cell_of_row _ gI 1 _ _ _ hSw.1; have e0 : w'.cell? ⟨gs, q * 2, none⟩ = some (.int .u32 (ua : Nat)) := (cell_of_row _ gs (q * 2) _ _ _ hSw.2).trans HE0.out; have e1 : w'.cell? ⟨gs, q * 2 + 1, none⟩ = some (.slice D d.length c0) := (cell_of_row _ gs (q * 2 + 1) _ _ _ hSw.2).trans HE1.out; clear hSw); go_simp; try with_reducible rfl
            simp only [Act.put, List.setIfInBounds_toArray, List.set_cons_zero, List.set_cons_succ]
            refine rgTake (i := 17) (N := some 46) (oi := { dst := some 46, op := Op.binOp BinOp.add 3 (Operand.tmp 38) (Operand.tmp 45) 3, type := 3, pos := "asm.go:290", after := #[{ on := 9, ground := Ground.data }, { on := 16, ground := Ground.data }, { on := 2, ground := Ground.guard }], guard := some (2, true) }) (v := ?_) #[true, true, true, true, true, true, true, true, true, true, true, true, true, true, true, true, true, true, false, false, false] rfl rfl (by kernel_rfl) (fun _ _ _ h => h) (Or.inl ⟨by rfl, ?_⟩) hHeld ?_
            rotate_left
            · intro w' hSw; (try dsimp only at hSw); (have i1 : w'.cell? ⟨gI, 1, none⟩ = some (.slice (some ⟨gs, 0, none⟩) n c) := cell_of_row _ gI 1 _ _ _ hSw.1; have e0 : w'.cell? ⟨gs, q * 2, none⟩ = some (.int .u32 (ua : Nat)) := (cell_of_row _ gs (q * 2) _ _ _ hSw.2).trans HE0.out; have e1 : w'.cell? ⟨gs, q * 2 + 1, none⟩ = some (.slice D d.length c0) := (cell_of_row _ gs (q * 2 + 1) _ _ _ hSw.2).trans HE1.out; clear hSw); go_simp; try with_reducible rfl
            simp only [Act.put, List.setIfInBounds_toArray, List.set_cons_zero, List.set_cons_succ]
            refine rgTake (i := 18) (N := some 47) (oi := { dst := some 47, op := Op.move (Operand.tmp 4), type := 3, pos := "asm.go:290", after := #[{ on := 2, ground := Ground.guard }], guard := some (2, true) }) (v := ?_) #[true, true, true, true, true, true, true, true, true, true, true, true, true, true, true, true, true, true, true, false, false] rfl rfl (by kernel_rfl) (fun _ _ _ h => h) (Or.inl ⟨by rfl, ?_⟩) hHeld ?_
            rotate_left
            · intro w' hSw; (try dsimp only at hSw); (have i1 : w'.cell? ⟨gI, 1, none⟩ = some (.slice (some ⟨gs, 0, none⟩) n c) := cell_of_row _ gI 1 _ _ _ hSw.1; have e0 : w'.cell? ⟨gs, q * 2, none⟩ = some (.int .u32 (ua : Nat)) := (cell_of_row _ gs (q * 2) _ _ _ hSw.2).trans HE0.out; have e1 : w'.cell? ⟨gs, q * 2 + 1, none⟩ = some (.slice D d.length c0) := (cell_of_row _ gs (q * 2 + 1) _ _ _ hSw.2).trans HE1.out; clear hSw); go_simp; try with_reducible rfl
            simp only [Act.put, List.setIfInBounds_toArray, List.set_cons_zero, List.set_cons_succ]
            refine rgTake (i := 19) (N := some 48) (oi := { dst := some 48, op := Op.binOp BinOp.eql 3 (Operand.tmp 46) (Operand.tmp 47) 3, type := 4, pos := "asm.go:290", after := #[{ on := 17, ground := Ground.data }, { on := 18, ground := Ground.data }, { on := 2, ground := Ground.guard }], guard := some (2, true) }) (v := ?_) #[true, true, true, true, true, true, true, true, true, true, true, true, true, true, true, true, true, true, true, true, false] rfl rfl (by kernel_rfl) (fun _ _ _ h => h) (Or.inl ⟨by rfl, ?_⟩) hHeld ?_
            rotate_left
            · intro w' hSw; (try dsimp only at hSw); (have i1 : w'.cell? ⟨gI, 1, none⟩ = some (.slice (some ⟨gs, 0, none⟩) n c) := cell_of_row _ gI 1 _ _ _ hSw.1; have e0 : w'.cell? ⟨gs, q * 2, none⟩ = some (.int .u32 (ua : Nat)) := (cell_of_row _ gs (q * 2) _ _ _ hSw.2).trans HE0.out; have e1 : w'.cell? ⟨gs, q * 2 + 1, none⟩ = some (.slice D d.length c0) := (cell_of_row _ gs (q * 2 + 1) _ _ _ hSw.2).trans HE1.out; clear hSw); go_simp; try with_reducible rfl
            simp only [Act.put, List.setIfInBounds_toArray, List.set_cons_zero, List.set_cons_succ]
            refine rgTake (i := 20) (N := some 49) (oi := { dst := some 49, op := Op.pick (Operand.tmp 31) (Operand.tmp 48) (Operand.const (Value.bool false)), type := 4, pos := "asm.go:290", after := #[{ on := 2, ground := Ground.data }, { on := 19, ground := Ground.data }], guard := none }) (v := ?_) #[true, true, true, true, true, true, true, true, true, true, true, true, true, true, true, true, true, true, true, true, true] rfl rfl (by kernel_rfl) (fun _ _ _ h => h) (Or.inl ⟨by rfl, ?_⟩) hHeld ?_
            rotate_left
            · intro w' hSw; (try dsimp only at hSw); (have i1 : w'.cell? ⟨gI, 1, none⟩ = some (.slice (some ⟨gs, 0, none⟩) n c) := cell_of_row _ gI 1 _ _ _ hSw.1; have e0 : w'.cell? ⟨gs, q * 2, none⟩ = some (.int .u32 (ua : Nat)) := (cell_of_row _ gs (q * 2) _ _ _ hSw.2).trans HE0.out; have e1 : w'.cell? ⟨gs, q * 2 + 1, none⟩ = some (.slice D d.length c0) := (cell_of_row _ gs (q * 2 + 1) _ _ _ hSw.2).trans HE1.out; clear hSw); go_simp; try with_reducible rfl
            simp only [Act.put, List.setIfInBounds_toArray, List.set_cons_zero, List.set_cons_succ]
            refine rgDone (by kernel_rfl) ?_ _
            clear hHeld
            go_upto_region 9 with fail
            (replace HI := keepA1 HI; replace HR := keepA1 HR; replace HB := keepB1 HB; replace HSG := Lib.hid (HSG.out.drew 1))
            refine rgStartC (S := (fun w' => w'.heap[gI]? = some (.cells (imA 0 (some ⟨gs, 0, none⟩) n c) 34 (0, 0)) ∧ (w'.heap[g]? = some (.cells (prgA s p) 68 (0, 0)) ∧ w'.heap[s.gD]? = some (.cells (ma .u8 (ints p.data)) 5 (0, 0))))) (n := 17) 14 #[false, false, false, false, false, false, false, false, false, false, false, false, false, false, false, false, false] (by kernel_rfl) rfl rfl ⟨HI.out, by rw [← HG.out]; exact (HP.out.below HB.out.1).cells, (HP.out.below HB.out.1).data⟩ (fun hHeld => ?_)
            refine rgTakeA (i := 0) (N := some 70) (oi := { dst := some 70, op := Op.fieldAddr 34 (Operand.tmp 3) 1, type := 0, pos := "asm.go:294", after := #[], guard := none }) (v := ?_) #[true, false, false, false, false, false, false, false, false, false, false, false, false, false, false, false, false] rfl rfl (by kernel_rfl) (by kernel_rfl) (fun _ _ _ h => h) (Or.inl ⟨by rfl, ?_⟩) (.inr hHeld.out) ?_
            rotate_left
            · intro w' hSw; clear hSw; go_simp; try with_reducible rfl
            simp only [Act.put, List.setIfInBounds_toArray, List.set_cons_zero, List.set_cons_succ]
            refine rgTakeS (i := 1) (N := some 71) (oi := { dst := some 71, op := Op.load 32 (Operand.tmp 70), type := 32, pos := "asm.go:294", after := #[{ on := 0, ground := Ground.data }], guard := none }) (v := ?_) #[true, true, false, false, false, false, false, false, false, false, false, false, false, false, false, false, false] rfl rfl (by kernel_rfl) (by kernel_rfl) (fun _ _ _ h => h) (Or.inl ⟨by rfl, ?_⟩) hHeld ?_
            rotate_left
            · intro w' hSw; (try dsimp only at hSw); (have i1 : w'.cell? ⟨gI, 1, none⟩ = some (.slice (some ⟨gs, 0, none⟩) n c) := cell_of_row _ gI 1 _ _ _ hSw.1; have i4 : w'.cell? ⟨g, 4, none⟩ = some (slF s.gD) := cell_of_row _ g 4 _ _ _ hSw.2.1; have d0 : w'.cell? ⟨s.gD, k, none⟩ = some (.int .u8 (bt.toNat : Int)) := (cell_of_row _ s.gD k _ _ _ hSw.2.2).trans (data_at HDB.out); clear hSw); go_simp; try with_reducible rfl
            simp only [Act.put, List.setIfInBounds_toArray, List.set_cons_zero, List.set_cons_succ]
            refine rgTakeA (i := 2) (N := some 72) (oi := { dst := some 72, op := Op.move (Operand.tmp 4), type := 3, pos := "asm.go:294", after := #[], guard := none }) (v := ?_) #[true, true, true, false, false, false, false, false, false, false, false, false, false, false, false, false, false] rfl rfl (by kernel_rfl) (by kernel_rfl) (fun _ _ _ h => h) (Or.inl ⟨by rfl, ?_⟩) (.inr hHeld.out) ?_
            rotate_left
            · intro w' hSw; clear hSw; go_simp; try with_reducible rfl
            simp only [Act.put, List.setIfInBounds_toArray, List.set_cons_zero, List.set_cons_succ]
            refine rgTakeA (i := 3) (N := some 73) (oi := { dst := some 73, op := Op.convert 3 25 (Operand.tmp 72), type := 25, pos := "asm.go:294", after := #[{ on := 2, ground := Ground.data }], guard := none }) (v := ?_) #[true, true, true, true, false, false, false, false, false, false, false, false, false, false, false, false, false] rfl rfl (by kernel_rfl) (by kernel_rfl) (fun _ _ _ h => h) (Or.inl ⟨by rfl, ?_⟩) (.inr hHeld.out) ?_
            rotate_left
            · intro w' hSw; clear hSw; go_simp; try with_reducible rfl
            simp only [Act.put, List.setIfInBounds_toArray, List.set_cons_zero, List.set_cons_succ]
            refine rgTakeA (i := 4) (N := some 74) (oi := { dst := some 74, op := Op.move (Operand.tmp 0), type := 63, pos := "asm.go:294", after := #[], guard := none }) (v := ?_) #[true, true, true, true, true, false, false, false, false, false, false, false, false, false, false, false, false] rfl rfl (by kernel_rfl) (by kernel_rfl) (fun _ _ _ h => h) (Or.inl ⟨by rfl, ?_⟩) (.inr hHeld.out) ?_
            rotate_left
            · intro w' hSw; clear hSw; go_simp; try with_reducible rfl
            simp only [Act.put, List.setIfInBounds_toArray, List.set_cons_zero, List.set_cons_succ]
            refine rgTakeA (i := 5) (N := some 75) (oi := { dst := some 75, op := Op.nilCheck (Operand.tmp 74), type := 0, pos := "asm.go:294", after := #[{ on := 4, ground := Ground.data }], guard := none }) (v := ?_) #[true, true, true, true, true, true, false, false, false, false, false, false, false, false, false, false, false] rfl rfl (by kernel_rfl) (by kernel_rfl) (fun _ _ _ h => h) (Or.inl ⟨by rfl, ?_⟩) (.inr hHeld.out) ?_
            rotate_left
            · intro w' hSw; clear hSw; go_simp; try with_reducible rfl
            simp only [Act.put, List.setIfInBounds_toArray, List.set_cons_zero, List.set_cons_succ]
            refine rgTakeA (i := 6) (N := some 76) (oi := { dst := some 76, op := Op.fieldAddr 68 (Operand.tmp 75) 4, type := 0, pos := "asm.go:294", after := #[{ on := 5, ground := Ground.data }], guard := none }) (v := ?_) #[true, true, true, true, true, true, true, false, false, false, false, false, false, false, false, false, false] rfl rfl (by kernel_rfl) (by kernel_rfl) (fun _ _ _ h => h) (Or.inl ⟨by rfl, ?_⟩) (.inr hHeld.out) ?_
            rotate_left
            · intro w' hSw; clear hSw; go_simp; try with_reducible rfl
            simp only [Act.put, List.setIfInBounds_toArray, List.set_cons_zero, List.set_cons_succ]
            refine rgTakeD [9, 10, 11, 12, 13] (i := 7) (N := some 77) (oi := { dst := some 77, op := Op.load 38 (Operand.tmp 76), type := 38, pos := "asm.go:294", after := #[{ on := 6, ground := Ground.data }], guard := none }) (v := ?_) #[true, true, true, true, true, true, true, true, false, false, false, false, false, false, false, false, false] rfl rfl (by kernel_rfl) (by kernel_rfl) (fun _ _ _ h => h) (Or.inl ⟨by rfl, ?_⟩) hHeld ?_
            rotate_left
            · intro w' hSw; (try dsimp only at hSw); (have i1 : w'.cell? ⟨gI, 1, none⟩ = some (.slice (some ⟨gs, 0, none⟩) n c) := cell_of_row _ gI 1 _ _ _ hSw.1; have i4 : w'.cell? ⟨g, 4, none⟩ = some (slF s.gD) := cell_of_row _ g 4 _ _ _ hSw.2.1; have d0 : w'.cell? ⟨s.gD, k, none⟩ = some (.int .u8 (bt.toNat : Int)) := (cell_of_row _ s.gD k _ _ _ hSw.2.2).trans (data_at HDB.out); clear hSw); go_simp; try with_reducible rfl
            simp only [Act.put, List.setIfInBounds_toArray, List.set_cons_zero, List.set_cons_succ]
            refine rgTakeA (i := 8) (N := some 78) (oi := { dst := some 78, op := Op.move (Operand.tmp 4), type := 3, pos := "asm.go:294", after := #[], guard := none }) (v := ?_) #[true, true, true, true, true, true, true, true, true, false, false, false, false, false, false, false, false] rfl rfl (by kernel_rfl) (by kernel_rfl) (fun _ _ _ h => h) (Or.inl ⟨by rfl, ?_⟩) (.inr hHeld.out) ?_
            rotate_left
            · intro w' hSw; clear hSw; go_simp; try with_reducible rfl
            simp only [Act.put, List.setIfInBounds_toArray, List.set_cons_zero, List.set_cons_succ]
            refine rgTakeA (i := 9) (N := some 79) (oi := { dst := some 79, op := Op.indexAddr 38 (Operand.tmp 77) (Operand.tmp 78), type := 0, pos := "asm.go:294", after := #[{ on := 7, ground := Ground.data }, { on := 8, ground := Ground.data }], guard := none }) (v := ?_) #[true, true, true, true, true, true, true, true, true, true, false, false, false, false, false, false, false] rfl rfl (by kernel_rfl) (by kernel_rfl) (fun _ _ _ h => h) (Or.inl ⟨by rfl, ?_⟩) (.inr hHeld.out) ?_
            rotate_left
            · intro w' hSw; clear hSw; go_simp; try with_reducible rfl
            simp only [Act.put, List.setIfInBounds_toArray, List.set_cons_zero, List.set_cons_succ]
            refine rgTakeD [11, 12, 13] (i := 10) (N := some 80) (oi := { dst := some 80, op := Op.load 5 (Operand.tmp 79), type := 5, pos := "asm.go:294", after := #[{ on := 9, ground := Ground.data }], guard := none }) (v := ?_) #[true, true, true, true, true, true, true, true, true, true, true, false, false, false, false, false, false] rfl rfl (by kernel_rfl) (by kernel_rfl) (fun _ _ _ h => h) (Or.inl ⟨by rfl, ?_⟩) hHeld ?_
            rotate_left
            · intro w' hSw; (try dsimp only at hSw); (have i1 : w'.cell? ⟨gI, 1, none⟩ = some (.slice (some ⟨gs, 0, none⟩) n c) := cell_of_row _ gI 1 _ _ _ hSw.1; have i4 : w'.cell? ⟨g, 4, none⟩ = some (slF s.gD) := cell_of_row _ g 4 _ _ _ hSw.2.1; have d0 : w'.cell? ⟨s.gD, k, none⟩ = some (.int .u8 (bt.toNat : Int)) := (cell_of_row _ s.gD k _ _ _ hSw.2.2).trans (data_at HDB.out); clear hSw); go_simp; try with_reducible rfl
            simp only [Act.put, List.setIfInBounds_toArray, List.set_cons_zero, List.set_cons_succ]
            refine rgCallD (i := 11) (N := some 81) (oi := { dst := some 81, op := Op.buildSlice 38 1 #[(0, Operand.tmp 80)], type := 38, pos := "asm.go:294", after := #[{ on := 10, ground := Ground.data }], guard := none }) #[true, true, true, true, true, true, true, true, true, true, true, true, false, false, false, false, false] rfl rfl (by kernel_rfl) (fun K hK => ?_)
            (refine rgLit (by rfl) 38 1 _ rfl #[.int .u8 (bt.toNat : Int)] 5 (fun _ => by kernel_rfl) ?_; intro gd w3 hg1 hg2 ha hb; have HAP := Lib.hid (segs_apart (k := k) (bt := bt) HSG.out hg1); have HO := Lib.hid (own_one ha (Nat.le_trans HB.out.2 hg1)); replace HI := keepA HI hb; replace HR := keepA HR hb; replace HSG := Lib.hid (HSG.out.below hb); replace HB := keepB HB hb; clear ha hb hg1 hg2)
            refine hK.out _ _ ⟨HI.out, by rw [← HG.out]; exact (HP.out.below HB.out.1).cells, (HP.out.below HB.out.1).data⟩ (fun hHeld => ?_)
            (try simp only [Act.put, List.setIfInBounds_toArray, List.set_cons_zero, List.set_cons_succ])
            clear hK K
            refine rgTakeA (i := 12) (N := some 82) (oi := { dst := some 82, op := Op.build 40 #[(0, Operand.tmp 73), (1, Operand.tmp 81)], type := 40, pos := "asm.go:294", after := #[{ on := 3, ground := Ground.data }, { on := 11, ground := Ground.data }], guard := none }) (v := ?_) #[true, true, true, true, true, true, true, true, true, true, true, true, true, false, false, false, false] rfl rfl (by kernel_rfl) (by kernel_rfl) (fun _ _ _ h => h) (Or.inl ⟨by rfl, ?_⟩) (.inr hHeld.out) ?_
            rotate_left
            · intro w' hSw; clear hSw; go_simp; try with_reducible rfl
            simp only [Act.put, List.setIfInBounds_toArray, List.set_cons_zero, List.set_cons_succ]
            refine rgCallD (i := 13) (N := some 83) (oi := { dst := some 83, op := Op.buildSlice 32 1 #[(0, Operand.tmp 82)], type := 32, pos := "asm.go:294", after := #[{ on := 12, ground := Ground.data }], guard := none }) #[true, true, true, true, true, true, true, true, true, true, true, true, true, true, false, false, false] rfl rfl (by kernel_rfl) (fun K hK => ?_)
            (refine rgLit (by rfl) 32 1 _ rfl #[.int .u32 (k : Nat), .slice (some ⟨gd, 0, none⟩) 1 1] 40 (fun _ => by kernel_rfl) ?_; intro gN w4 hg1 hg2 ha hb; replace HO := Lib.hid (ownk_below HO.out hb); replace HI := keepA HI hb; replace HR := keepA HR hb; replace HSG := Lib.hid (HSG.out.below hb); replace HB := keepB HB hb; have HLT := Lib.hid ha; clear ha hb hg1 hg2)
            refine hK.out _ _ ⟨HI.out, by rw [← HG.out]; exact (HP.out.below HB.out.1).cells, (HP.out.below HB.out.1).data⟩ (fun hHeld => ?_)
            (try simp only [Act.put, List.setIfInBounds_toArray, List.set_cons_zero, List.set_cons_succ])
            clear hK K
            refine rgCallC (i := 14) (N := some 84) (oi := { dst := some 84, op := Op.call { callee := Callee.builtin Builtin.append, args := #[Operand.tmp 71, Operand.tmp 83], argTypes := #[32, 32] }, type := 32, pos := "asm.go:294", after := #[{ on := 1, ground := Ground.data }, { on := 13, ground := Ground.data }], guard := none }) #[true, true, true, true, true, true, true, true, true, true, true, true, true, true, true, false, false] rfl rfl (by kernel_rfl) (by rfl) (fun K hK => ?_)
            (refine rgAppRow (by rfl) _ _ 32 40 (.agg #[.int .u32 0, .slice none 0 0]) 2 32 rfl Tryd.underlying32 infoSeg3 rfl (by decide) w.heap.size _ n _ rfl (row_at HSG.out HN.out) #[.int .u32 (k : Nat), .slice (some ⟨gd, 0, none⟩) 1 1] rfl (by simp [Value.oneCell']) gN 1 rfl HLT.out (by unfold maxLen; omega) (by omega) HB.out.2 ?_; intro v2 w5 h1 h2 h3; have HS2 := Lib.hid (HSG.out.push (m := ⟨k, some ⟨gd, 0, none⟩, 1, [bt]⟩) HO.out HK1.out HAP.out (row_back h1 HN.out) h2); obtain ⟨S2, c2, rfl⟩ := own_valk h1; replace HI := keepGrow HI HSG.out.row h2 (by decide); replace HR := keepGrow HR HSG.out.row h2 (by decide); replace HB := keepBw HB h2 (fun j hj => (own_type HSG.out.row hj).1); clear h1 h2 h3 hHeld)
            refine hK.out _ _ ?_
            (try simp only [Act.put, List.setIfInBounds_toArray, List.set_cons_zero, List.set_cons_succ])
            clear hK K
            refine rgTakeA (i := 15) (N := some 85) (oi := { dst := some 85, op := Op.fieldAddr 34 (Operand.tmp 3) 1, type := 0, pos := "asm.go:294", after := #[{ on := 0, ground := Ground.phase }, { on := 1, ground := Ground.phase }, { on := 2, ground := Ground.phase }, { on := 3, ground := Ground.phase }, { on := 4, ground := Ground.phase }, { on := 5, ground := Ground.phase }, { on := 6, ground := Ground.phase }, { on := 7, ground := Ground.phase }, { on := 8, ground := Ground.phase }, { on := 9, ground := Ground.phase }, { on := 10, ground := Ground.phase }, { on := 11, ground := Ground.phase }, { on := 12, ground := Ground.phase }, { on := 13, ground := Ground.phase }, { on := 14, ground := Ground.phase }], guard := none }) (v := ?_) #[true, true, true, true, true, true, true, true, true, true, true, true, true, true, true, true, false] rfl rfl (by kernel_rfl) (by kernel_rfl) (fun _ _ _ h => h) (Or.inl ⟨by rfl, ?_⟩) (.inl (by rfl)) ?_
            rotate_left
            · intro w' hSw; clear hSw; go_simp; try with_reducible rfl
            simp only [Act.put, List.setIfInBounds_toArray, List.set_cons_zero, List.set_cons_succ]
            refine rgCallC (i := 16) (N := none) (oi := { dst := none, op := Op.store 32 (Operand.tmp 85) (Operand.tmp 84), type := 0, pos := "asm.go:294", after := #[{ on := 15, ground := Ground.data }, { on := 14, ground := Ground.data }, { on := 14, ground := Ground.chain }, { on := 0, ground := Ground.phase }, { on := 1, ground := Ground.phase }, { on := 2, ground := Ground.phase }, { on := 3, ground := Ground.phase }, { on := 4, ground := Ground.phase }, { on := 5, ground := Ground.phase }, { on := 6, ground := Ground.phase }, { on := 7, ground := Ground.phase }, { on := 8, ground := Ground.phase }, { on := 9, ground := Ground.phase }, { on := 10, ground := Ground.phase }, { on := 11, ground := Ground.phase }, { on := 12, ground := Ground.phase }, { on := 13, ground := Ground.phase }, { on := 14, ground := Ground.phase }], guard := none }) #[true, true, true, true, true, true, true, true, true, true, true, true, true, true, true, true, true] rfl rfl (by kernel_rfl) (by rfl) (fun K hK => ?_)
            (refine rgCell (by rfl) 32 _ _ rfl gI 1 rfl (.slice S2 (n + 1) c2) rfl rfl rfl HI.out (show 1 < 2 by decide) infoSS ?_; intro w6 ha ho; replace HS2 := Lib.hid (HS2.out.only ho HI.out (by decide) (by decide)); replace HR := keepAo HR HRI.out ho; replace HB := keepBo HB HGI.out ho; replace HI : Hid (w6.heap[gI]? = some (.cells (imA 0 S2 (n + 1) c2) 34 (0, 0))) := Lib.hid ha; clear ha ho)
            refine hK.out _ _ ?_
            clear hK K
            refine rgDoneC (by kernel_rfl) ?_ _
            go_wp2
            go_roundg (gk - 1)
            case measure => have := HK.out; omega
            case rel => exact ⟨k + 1, n + 1, c2, S2, ms0 ++ [⟨ua, D, c0, d⟩] ++ [⟨k, some ⟨gd, 0, none⟩, 1, [bt]⟩], rfl, by have := HK.out; omega, by rw [List.length_append, HN.out]; rfl, by have := HNK.out; omega, Lib.hid (by rw [HST2.out]; simp only [List.map_append, List.map_cons, List.map_nil]; exact (step_new (ms0.map SegM.v) ⟨ua, d⟩ k bt HEND.out).symm), HS2, HI, HR, HB⟩
    · obtain rfl : k = 16384 := by omega
      obtain ⟨r, hf⟩ : ∃ r, findV p.vals startN = r := ⟨_, rfl⟩
      have HF := Lib.hid hf
      have HPW : Hid (PrgAt wr B s p rs) := Lib.hid (HP.out.below HB.out.1)
      have i2 : wr.cell? ⟨g, 2, none⟩ = some (.map (some s.gM)) := by rw [← HG.out]; exact cell_of_row _ s.gP 2 _ _ _ HPW.out.cells
      have i1 : wr.cell? ⟨gI, 1, none⟩ = some (.slice S n c) := cellA HI 1
      have hz := HZ.out
      unfold imageV at hz
      rw [← HM.out, hf] at hz
      cases r with
      | some v =>
        have hv : v < 4294967296 := find_lt hf HVS.out
        have HZZ : Hid ((v, ms.map SegM.v) = Z) := Lib.hid hz
        clear hz hf hlt hk hnk
        go_wp2_with (first | (refine mapLook (by rfl) _ _ rfl s.gM p.vals rfl HPW.out.map startN rfl (by decide) _ HF.out ?_) | (refine cellStore rfl 25 _ _ rfl gI 0 rfl (.int .u32 (v : Nat)) rfl rfl rfl HI.out (show 0 < 2 by decide) infoU32 ?_; intro w5 ha ho; (replace HSG := Lib.hid (HSG.out.only ho HI.out (by decide) (by decide)); replace HR := keepAo HR HRI.out ho; replace HB := keepBo HB HGI.out ho); replace HI : Hid (w5.heap[gI]? = some (.cells (imA v S n c) 34 (0, 0))) := Lib.hid ha; clear ha ho) | (refine rowLoad (by rfl) 34 _ rfl gI rfl (cs := imA v S n c) HI.out Tryd.underlying34 rfl infoIm ?_) | (refine rowStore (by rfl) 34 _ _ rfl gR rfl (imA v S n c) rfl HR.out infoIm rfl (imA_one _ _ _ _) ?_; (intro w7 ha ho; replace HSG := Lib.hid (HSG.out.only ho HR.out (by decide) (by decide)); replace HB := keepBo HB HGR.out ho; replace HR := Lib.hid ha; clear ha ho)))
        exact bodyPost_ret (results_cell_row rfl _ _ gR 34 (imA v S n c) (0, 0) _ rfl HR.out Tryd.underlying34 rfl infoIm) rfl (by rw [← HZZ.out]; subst hn; exact ⟨⟨S, c, ms, rfl, rfl, HSG.out⟩, HB.out.1⟩)
      | none =>
        by_cases hn0 : n = 0
        · have HMS : Hid (ms = []) := Lib.hid (List.eq_nil_of_length_eq_zero (by rw [HN.out]; exact hn0))
          have HZZ : Hid ((0, ms.map SegM.v) = Z) := Lib.hid (by rw [← hz, HMS.out]; rfl)
          have hn1 : ¬ 0 < n := by omega
          have hn2 : ¬ (0 : Int) < (n : Int) := by omega
          clear hz hf hlt hk hnk
          go_wp2_with (first | (refine mapLook (by rfl) _ _ rfl s.gM p.vals rfl HPW.out.map startN rfl (by decide) _ HF.out ?_) | (refine rowLoad (by rfl) 34 _ rfl gI rfl (cs := imA 0 S n c) HI.out Tryd.underlying34 rfl infoIm ?_) | (refine rowStore (by rfl) 34 _ _ rfl gR rfl (imA 0 S n c) rfl HR.out infoIm rfl (imA_one _ _ _ _) ?_; (intro w7 ha ho; replace HSG := Lib.hid (HSG.out.only ho HR.out (by decide) (by decide)); replace HB := keepBo HB HGR.out ho; replace HR := Lib.hid ha; clear ha ho)))
          exact bodyPost_ret (results_cell_row rfl _ _ gR 34 (imA 0 S n c) (0, 0) _ rfl HR.out Tryd.underlying34 rfl infoIm) rfl (by rw [← HZZ.out]; subst hn; exact ⟨⟨S, c, ms, rfl, rfl, HSG.out⟩, HB.out.1⟩)
        · obtain ⟨m, mt, hms⟩ : ∃ m mt, ms = m :: mt := by
            cases ms with
            | nil => exact absurd hn.symm (by simpa using hn0)
            | cons m mt => exact ⟨m, mt, rfl⟩
          have hn1 : 0 < n := by omega
          obtain ⟨v, hv⟩ : ∃ v, m.at_ = v := ⟨_, rfl⟩
          have HZZ : Hid ((v, ms.map SegM.v) = Z) := Lib.hid (by rw [← hz, hms, ← hv]; rfl)
          obtain ⟨A9, c9, hv9, hrd⟩ := HSG.out.rd
          injection hv9 with h91 h92 h93
          subst h91
          obtain ⟨b9, off9, rfl, -, -⟩ := hrd.1.2.2 (by omega)
          have hrg := RwA.at_ hrd.1 (by omega) (sA_get (ms := ms) (k := 0) (m := m) (by rw [hms]; rfl)) 0 (.int .u32 (v : Nat)) (by rw [← hv]; rfl)
          have e0 : wr.cell? ⟨b9, off9, none⟩ = some (.int .u32 (v : Nat)) := hrg
          clear hz hf hlt hk hnk hms hv hrd hrg h92 h93 hn0
          go_wp2_with (first | (refine mapLook (by rfl) _ _ rfl s.gM p.vals rfl HPW.out.map startN rfl (by decide) _ HF.out ?_) | (refine wlIdx (by rfl) 32 _ _ rfl 40 2 Tryd.underlying32 sizeSeg b9 off9 n c 0 rfl rfl hn1 ?_) | (refine cellStore rfl 25 _ _ rfl gI 0 rfl (.int .u32 (v : Nat)) rfl rfl rfl HI.out (show 0 < 2 by decide) infoU32 ?_; intro w5 ha ho; (replace HSG := Lib.hid (HSG.out.only ho HI.out (by decide) (by decide)); replace HR := keepAo HR HRI.out ho; replace HB := keepBo HB HGI.out ho); replace HI : Hid (w5.heap[gI]? = some (.cells (imA v (some ⟨b9, off9, none⟩) n c) 34 (0, 0))) := Lib.hid ha; clear ha ho) | (refine rowLoad (by rfl) 34 _ rfl gI rfl (cs := imA v (some ⟨b9, off9, none⟩) n c) HI.out Tryd.underlying34 rfl infoIm ?_) | (refine rowStore (by rfl) 34 _ _ rfl gR rfl (imA v (some ⟨b9, off9, none⟩) n c) rfl HR.out infoIm rfl (imA_one _ _ _ _) ?_; (intro w7 ha ho; replace HSG := Lib.hid (HSG.out.only ho HR.out (by decide) (by decide)); replace HB := keepBo HB HGR.out ho; replace HR := Lib.hid ha; clear ha ho)))
          exact bodyPost_ret (results_cell_row rfl _ _ gR 34 (imA v (some ⟨b9, off9, none⟩) n c) (0, 0) _ rfl HR.out Tryd.underlying34 rfl infoIm) rfl (by rw [← HZZ.out]; subst hn; exact ⟨⟨_, c, ms, rfl, rfl, HSG.out⟩, HB.out.1⟩)
end Go.Proofs.YtaclidjhgpkmpaaDoor.My
