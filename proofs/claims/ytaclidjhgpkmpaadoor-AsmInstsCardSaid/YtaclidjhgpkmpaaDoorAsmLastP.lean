/- Walk: the last field of an instruction behind hi or lo. -/
import Derived.Test.YtaclidjhgpkmpaaDoorAsmLast
set_option linter.unusedVariables false
set_option linter.unusedSimpArgs false
namespace Go.Proofs.YtaclidjhgpkmpaaDoor.My
open Go.RowKit
set_option maxRecDepth 100000 in
set_option maxHeartbeats 8000000 in
theorem last_part {g : Nat} (B : Nat) (s : PS) (p : Prg) (rs : List RowM) (op : Int) (ini : List (List UInt8)) (y x : List UInt8) (b off N c i : Nat) (w : World) (hg : s.gP = g) (hp : PrgAt w B s p rs) (hr : RdW w (some ⟨b, off, none⟩) (ini ++ [y] ++ [x])) (hN : N = ini.length + 2) (hc : N ≤ c) (hl : N ≤ 90000) (hx : x.length ≤ 1000000) (hvs : ∀ q ∈ p.vals, q.2 < 4294967296) (hpart : isPart y = true) :
    Calls Tryd.prog 65 #[.pointer (some ⟨g, 0, none⟩), .int .i64 op, .slice (some ⟨b, off, none⟩) N c, .int .u32 (i : Nat)] w fun e w' => ListTo w w' (lastV p op (ini ++ [y]) x i).2 (lastV p op (ini ++ [y]) x i).1 e := by
  obtain ⟨R, hR⟩ : ∃ R, lastV p op (ini ++ [y]) x i = R := ⟨_, rfl⟩
  rw [hR]
  unfold lastV at hR
  rw [if_pos ⟨by simp, by simpa using hpart⟩] at hR
  have HG := Lib.hid hg
  have HP := Lib.hid hp
  have HRD := Lib.hid hr
  have HB := startB w
  have HBL : Hid (b < w.heap.size) := Lib.hid (hr.lt _ rfl (by simp))
  obtain ⟨m, hm⟩ : ∃ m, ini.length = m := ⟨_, rfl⟩
  have HM := Lib.hid hm
  rw [hm] at hN
  obtain ⟨n, hn⟩ : ∃ n, m + 1 = n := ⟨_, rfl⟩
  have hn1 : (N : Int) - 1 = (n : Int) := by omega
  have hm1 : (n : Int) - 1 = (m : Int) := by omega
  have hwm : IntKind.i64.wrap (m : Int) = (m : Int) := by rw [IntKind.wrap_i64]; omega
  have hnN : n < N := by omega
  have hmN : m ≤ N := by omega
  have hmN2 : m < N := by omega
  have hn0 : 0 < n := by omega
  have hm9 : m ≤ 100000 := by omega
  have cS : w.cell? ⟨b, off + n, none⟩ = some (.string (bs x)) := rdw_at hr (by rw [← hn, ← hm]; simp)
  have cY : w.cell? ⟨b, off + m, none⟩ = some (.string (bs y)) := rdw_at hr (by rw [← hm]; simp)
  have i2 : w.cell? ⟨g, 2, none⟩ = some (.map (some s.gM)) := by rw [← hg]; exact cell_of_row _ s.gP 2 _ _ _ hp.cells
  have hyy : ((bs y).toList == [104, 105]) = true ∨ (((bs y).toList == [104, 105]) = false ∧ ((bs y).toList == [108, 111]) = true) := by
    rw [toL]
    unfold isPart at hpart
    cases q : (y == [104, 105]) with
    | true => exact .inl rfl
    | false => rw [q] at hpart; exact .inr ⟨rfl, hpart⟩
  have HVS := Lib.hid hvs
  have e1 : (ini ++ [y]).getLastD [] = y := by simp
  have e2 : (ini ++ [y]).dropLast = ini := by simp
  rw [e1, e2] at hR
  clear hp hr hm hvs hpart hg hn hN e1 e2
  by_cases hin : isNameV x = false
  · rw [if_pos hin] at hR
    have HR := Lib.hid hR
    have HIN := Lib.hid hin
    clear hR hin
    rcases hyy with y1 | ⟨y1, y2⟩
    all_goals
      go_enter Tryd.func65, Tryd.ntmps65
      go_upto_region 4 with fail
      go_wp2_with (go_at_call 55; refine (isName_any x _ hx).mono ?_; rw [HIN.out]; rintro e w3 ⟨rfl, rfl⟩)
      go_ret2
      rw [← HR.out]
      exact listTo_nil HB.out.1
  rw [if_neg hin] at hR
  have HIN : Hid (isNameV x = true) := Lib.hid (by simpa using hin)
  obtain ⟨r, hf⟩ : ∃ r, findV p.vals x = r := ⟨_, rfl⟩
  rw [hf] at hR
  have HF := Lib.hid hf
  clear hin
  cases r with
  | none =>
    have HR := Lib.hid hR
    clear hR hf
    rcases hyy with y1 | ⟨y1, y2⟩
    all_goals
      go_enter Tryd.func65, Tryd.ntmps65
      go_upto_region 4 with fail
      go_wp2_with (first | (go_at_call 55; refine (isName_any x _ hx).mono ?_; rw [HIN.out]; rintro e w3 ⟨rfl, rfl⟩) | (refine mapLook (by rfl) _ _ rfl s.gM p.vals rfl HP.out.map x rfl hx _ HF.out ?_))
      go_ret2
      rw [← HR.out]
      exact listTo_nil HB.out.1
  | some v =>
    have hv : v < 4294967296 := find_lt hf HVS.out
    have hpl := pieceV_le (y := y) hv
    obtain ⟨kd, hkd⟩ : ∃ z, pieceV y v = z := ⟨_, rfl⟩
    rw [hkd] at hpl
    have HK := Lib.hid hkd
    have HDK := Lib.hid hpl
    obtain ⟨db, hdb⟩ : ∃ z, decL kd = z := ⟨_, rfl⟩
    have HDB := Lib.hid hdb
    have HR : Hid ((0, ini ++ [db]) = R) := Lib.hid (by rw [← hR, ← hdb, ← hkd])
    clear hR hf hkd hpl hdb
    rcases hyy with y1 | ⟨y1, y2⟩
    all_goals
      go_enter Tryd.func65, Tryd.ntmps65
      go_upto_region 4 with fail
      go_upto_region 9 with (first | (go_at_call 55; refine (isName_any x _ hx).mono ?_; rw [HIN.out]; rintro e w3 ⟨rfl, rfl⟩) | (refine mapLook (by rfl) _ _ rfl s.gM p.vals rfl HP.out.map x rfl hx _ HF.out ?_))
      replace HRD := Lib.hid (HRD.out.below (belowD _))
      replace HB := keepB HB (belowD _)
      clear cS cY i2
      refine rgStart (S := (fun w' => RdW w' (some ⟨b, off, none⟩) (ini ++ [y]))) (n := 17) #[false, false, false, false, false, false, false, false, false, false, false, false, false, false, false, false, false] (by kernel_rfl) rfl rfl (rdw_init HRD.out) (fun hHeld => ?_)
      refine rgTake (i := 0) (N := some 57) (oi := { dst := some 57, op := Op.move (Operand.tmp 2), type := 55, pos := "asm.go:207", after := #[], guard := none }) (v := ?_) #[true, false, false, false, false, false, false, false, false, false, false, false, false, false, false, false, false] rfl rfl (by kernel_rfl) (fun _ _ _ h => h) (Or.inl ⟨by rfl, ?_⟩) hHeld ?_
      rotate_left
      · intro w' hSw; (try dsimp only at hSw); (have k0 : w'.cell? ⟨b, off + m, none⟩ = some (.string (bs y)) := rdw_at hSw (by rw [← HM.out]; simp)); go_simp; try with_reducible rfl
      simp only [Act.put, List.setIfInBounds_toArray, List.set_cons_zero, List.set_cons_succ]
      refine rgTake (i := 1) (N := some 58) (oi := { dst := some 58, op := Op.move (Operand.tmp 10), type := 3, pos := "asm.go:207", after := #[], guard := none }) (v := ?_) #[true, true, false, false, false, false, false, false, false, false, false, false, false, false, false, false, false] rfl rfl (by kernel_rfl) (fun _ _ _ h => h) (Or.inl ⟨by rfl, ?_⟩) hHeld ?_
      rotate_left
      · intro w' hSw; (try dsimp only at hSw); (have k0 : w'.cell? ⟨b, off + m, none⟩ = some (.string (bs y)) := rdw_at hSw (by rw [← HM.out]; simp)); go_simp; try with_reducible rfl
      simp only [Act.put, List.setIfInBounds_toArray, List.set_cons_zero, List.set_cons_succ]
      refine rgTake (i := 2) (N := some 59) (oi := { dst := some 59, op := Op.binOp BinOp.sub 3 (Operand.tmp 58) (Operand.const (Value.int IntKind.i64 1)) 3, type := 3, pos := "asm.go:207", after := #[{ on := 1, ground := Ground.data }], guard := none }) (v := ?_) #[true, true, true, false, false, false, false, false, false, false, false, false, false, false, false, false, false] rfl rfl (by kernel_rfl) (fun _ _ _ h => h) (Or.inl ⟨by rfl, ?_⟩) hHeld ?_
      rotate_left
      · intro w' hSw; (try dsimp only at hSw); (have k0 : w'.cell? ⟨b, off + m, none⟩ = some (.string (bs y)) := rdw_at hSw (by rw [← HM.out]; simp)); go_simp; try with_reducible rfl
      simp only [Act.put, List.setIfInBounds_toArray, List.set_cons_zero, List.set_cons_succ]
      refine rgTake (i := 3) (N := some 60) (oi := { dst := some 60, op := Op.slice 55 (Operand.tmp 57) none (some (Operand.tmp 59)) none, type := 55, pos := "asm.go:207", after := #[{ on := 0, ground := Ground.data }, { on := 2, ground := Ground.data }], guard := none }) (v := _) #[true, true, true, true, false, false, false, false, false, false, false, false, false, false, false, false, false] rfl rfl (by kernel_rfl) (fun _ _ _ h => h) (yieldsHd (by rfl) 55 _ _ rfl b off c N m rfl .i64 _ rfl rfl (run_headS (P := Tryd.prog) 55 Tryd.underlying55 infoS1 b off c N m hmN hc .i64)) hHeld ?_
      simp only [Act.put, List.setIfInBounds_toArray, List.set_cons_zero, List.set_cons_succ]
      refine rgTake (i := 5) (N := some 62) (oi := { dst := some 62, op := Op.move (Operand.tmp 2), type := 55, pos := "asm.go:207", after := #[], guard := none }) (v := ?_) #[true, true, true, true, false, true, false, false, false, false, false, false, false, false, false, false, false] rfl rfl (by kernel_rfl) (fun _ _ _ h => h) (Or.inl ⟨by rfl, ?_⟩) hHeld ?_
      rotate_left
      · intro w' hSw; (try dsimp only at hSw); (have k0 : w'.cell? ⟨b, off + m, none⟩ = some (.string (bs y)) := rdw_at hSw (by rw [← HM.out]; simp)); go_simp; try with_reducible rfl
      simp only [Act.put, List.setIfInBounds_toArray, List.set_cons_zero, List.set_cons_succ]
      refine rgTake (i := 6) (N := some 63) (oi := { dst := some 63, op := Op.move (Operand.tmp 10), type := 3, pos := "asm.go:207", after := #[], guard := none }) (v := ?_) #[true, true, true, true, false, true, true, false, false, false, false, false, false, false, false, false, false] rfl rfl (by kernel_rfl) (fun _ _ _ h => h) (Or.inl ⟨by rfl, ?_⟩) hHeld ?_
      rotate_left
      · intro w' hSw; (try dsimp only at hSw); (have k0 : w'.cell? ⟨b, off + m, none⟩ = some (.string (bs y)) := rdw_at hSw (by rw [← HM.out]; simp)); go_simp; try with_reducible rfl
      simp only [Act.put, List.setIfInBounds_toArray, List.set_cons_zero, List.set_cons_succ]
      refine rgTake (i := 7) (N := some 64) (oi := { dst := some 64, op := Op.binOp BinOp.sub 3 (Operand.tmp 63) (Operand.const (Value.int IntKind.i64 1)) 3, type := 3, pos := "asm.go:207", after := #[{ on := 6, ground := Ground.data }], guard := none }) (v := ?_) #[true, true, true, true, false, true, true, true, false, false, false, false, false, false, false, false, false] rfl rfl (by kernel_rfl) (fun _ _ _ h => h) (Or.inl ⟨by rfl, ?_⟩) hHeld ?_
      rotate_left
      · intro w' hSw; (try dsimp only at hSw); (have k0 : w'.cell? ⟨b, off + m, none⟩ = some (.string (bs y)) := rdw_at hSw (by rw [← HM.out]; simp)); go_simp; try with_reducible rfl
      simp only [Act.put, List.setIfInBounds_toArray, List.set_cons_zero, List.set_cons_succ]
      refine rgTake (i := 8) (N := some 65) (oi := { dst := some 65, op := Op.indexAddr 55 (Operand.tmp 62) (Operand.tmp 64), type := 0, pos := "asm.go:207", after := #[{ on := 5, ground := Ground.data }, { on := 7, ground := Ground.data }], guard := none }) (v := ?_) #[true, true, true, true, false, true, true, true, true, false, false, false, false, false, false, false, false] rfl rfl (by kernel_rfl) (fun _ _ _ h => h) (Or.inl ⟨by rfl, ?_⟩) hHeld ?_
      rotate_left
      · intro w' hSw; (try dsimp only at hSw); (have k0 : w'.cell? ⟨b, off + m, none⟩ = some (.string (bs y)) := rdw_at hSw (by rw [← HM.out]; simp)); go_simp; try with_reducible rfl
      simp only [Act.put, List.setIfInBounds_toArray, List.set_cons_zero, List.set_cons_succ]
      refine rgTake (i := 9) (N := some 66) (oi := { dst := some 66, op := Op.load 9 (Operand.tmp 65), type := 9, pos := "asm.go:207", after := #[{ on := 8, ground := Ground.data }], guard := none }) (v := ?_) #[true, true, true, true, false, true, true, true, true, true, false, false, false, false, false, false, false] rfl rfl (by kernel_rfl) (fun _ _ _ h => h) (Or.inl ⟨by rfl, ?_⟩) hHeld ?_
      rotate_left
      · intro w' hSw; (try dsimp only at hSw); (have k0 : w'.cell? ⟨b, off + m, none⟩ = some (.string (bs y)) := rdw_at hSw (by rw [← HM.out]; simp)); go_simp; try with_reducible rfl
      simp only [Act.put, List.setIfInBounds_toArray, List.set_cons_zero, List.set_cons_succ]
      refine rgTake (i := 10) (N := some 67) (oi := { dst := some 67, op := Op.move (Operand.tmp 12), type := 25, pos := "asm.go:207", after := #[], guard := none }) (v := ?_) #[true, true, true, true, false, true, true, true, true, true, true, false, false, false, false, false, false] rfl rfl (by kernel_rfl) (fun _ _ _ h => h) (Or.inl ⟨by rfl, ?_⟩) hHeld ?_
      rotate_left
      · intro w' hSw; (try dsimp only at hSw); (have k0 : w'.cell? ⟨b, off + m, none⟩ = some (.string (bs y)) := rdw_at hSw (by rw [← HM.out]; simp)); go_simp; try with_reducible rfl
      simp only [Act.put, List.setIfInBounds_toArray, List.set_cons_zero, List.set_cons_succ]
      refine rgCall (i := 4) (N := some 61) (oi := { dst := some 61, op := Op.call { callee := Callee.builtin Builtin.append, args := #[Operand.const (Value.slice none 0 0), Operand.tmp 60], argTypes := #[55, 55] }, type := 55, pos := "asm.go:207", after := #[{ on := 3, ground := Ground.data }], guard := none }) #[true, true, true, true, true, true, true, true, true, true, true, false, false, false, false, false, false] rfl rfl (by kernel_rfl) (fun K hK => ?_)
      (refine rgAppL (by rfl) _ _ 55 rfl Tryd.underlying55 infoStr3 rfl b off m c ini HM.out rfl (rdw_init (rdw_init HRD.out)) hm9 ?_; intro v2 w4 hown hb2; have HO := Lib.hid (own_weak hown HB.out.2); replace HB := keepB HB hb2; replace HRD := Lib.hid (HRD.out.below hb2); clear hown hb2)
      refine hK.out _ _ (rdw_init HRD.out) (fun hHeld => ?_)
      (try simp only [Act.put, List.setIfInBounds_toArray, List.set_cons_zero, List.set_cons_succ])
      clear hK K
      refine rgCall (i := 11) (N := some 68) (oi := { dst := some 68, op := Op.call { callee := Callee.value (Operand.func 75), args := #[Operand.tmp 66, Operand.tmp 67], argTypes := #[9, 25] }, type := 2, pos := "asm.go:207", after := #[{ on := 9, ground := Ground.data }, { on := 10, ground := Ground.data }, { on := 4, ground := Ground.chain }], guard := none }) #[true, true, true, true, true, true, true, true, true, true, true, true, false, false, false, false, false] rfl rfl (by kernel_rfl) (fun K hK => ?_)
      go_simp
      (go_at_call 75; refine (part_any y v _ hv).mono ?_; rw [HK.out]; rintro e w5 ⟨rfl, rfl⟩)
      refine hK.out _ _ (rdw_init HRD.out) (fun hHeld => ?_)
      (try simp only [Act.put, List.setIfInBounds_toArray, List.set_cons_zero, List.set_cons_succ])
      clear hK K
      refine rgCall (i := 12) (N := some 69) (oi := { dst := some 69, op := Op.call { callee := Callee.value (Operand.func 11), args := #[Operand.tmp 68], argTypes := #[2] }, type := 9, pos := "asm.go:207", after := #[{ on := 11, ground := Ground.data }, { on := 11, ground := Ground.chain }], guard := none }) #[true, true, true, true, true, true, true, true, true, true, true, true, true, false, false, false, false] rfl rfl (by kernel_rfl) (fun K hK => ?_)
      go_simp
      (go_at_call 11; refine (dec_any2 kd _ HDK.out.1 HDK.out.2).mono ?_; rw [HDB.out]; rintro e w5 ⟨rfl, hb⟩; replace HO := Lib.hid (own_below HO.out hb); replace HB := keepB HB hb; replace HRD := Lib.hid (HRD.out.below hb); clear hb)
      refine hK.out _ _ (rdw_init HRD.out) (fun hHeld => ?_)
      (try simp only [Act.put, List.setIfInBounds_toArray, List.set_cons_zero, List.set_cons_succ])
      clear hK K
      refine rgCall (i := 13) (N := some 70) (oi := { dst := some 70, op := Op.buildSlice 55 1 #[(0, Operand.tmp 69)], type := 55, pos := "asm.go:207", after := #[{ on := 12, ground := Ground.data }], guard := none }) #[true, true, true, true, true, true, true, true, true, true, true, true, true, true, false, false, false] rfl rfl (by kernel_rfl) (fun K hK => ?_)
      (refine rgLit (by rfl) 55 1 _ rfl #[.string (bs db)] 9 (fun _ => by kernel_rfl) ?_; intro gN w6 hg1 hg2 ha hb; replace HO := Lib.hid (own_below HO.out hb); replace HB := keepB HB hb; replace HRD := Lib.hid (HRD.out.below hb); have HN := Lib.hid ha; clear ha hb hg1 hg2)
      refine hK.out _ _ (rdw_init HRD.out) (fun hHeld => ?_)
      (try simp only [Act.put, List.setIfInBounds_toArray, List.set_cons_zero, List.set_cons_succ])
      clear hK K
      refine rgCall (i := 14) (N := some 71) (oi := { dst := some 71, op := Op.call { callee := Callee.builtin Builtin.append, args := #[Operand.tmp 61, Operand.tmp 70], argTypes := #[55, 55] }, type := 55, pos := "asm.go:207", after := #[{ on := 4, ground := Ground.data }, { on := 13, ground := Ground.data }, { on := 12, ground := Ground.chain }], guard := none }) #[true, true, true, true, true, true, true, true, true, true, true, true, true, true, true, false, false] rfl rfl (by kernel_rfl) (fun K hK => ?_)
      (refine rgAppRow (by rfl) _ _ 55 9 (.string ⟨#[]⟩) 1 16 rfl Tryd.underlying55 infoStr3 rfl (by decide) w.heap.size v2 m (ini.map fun x => Value.string (bs x)) rfl HO.out #[.string (bs db)] rfl (by simp [Value.oneCell']) gN 1 rfl HN.out (by unfold maxLen; omega) (by omega) HB.out.2 ?_; intro v3 w7 hown hgr hv3; replace HRD := Lib.hid (HRD.out.turn (Turn.of_grown (ms := v2.ownBlock.toList) hgr (fun k hk => by simp [hk])) (fun a ha _ q => by injection ha with ha; subst ha; have := (HO.out.lt b (by simpa using q)).1; have := HBL.out; omega)); replace HB := keepBw HB hgr (fun k hk => (HO.out.lt k hk).1); replace HO := Lib.hid hown; clear hown hgr hv3)
      refine hK.out _ _ (rdw_init HRD.out) (fun hHeld => ?_)
      (try simp only [Act.put, List.setIfInBounds_toArray, List.set_cons_zero, List.set_cons_succ])
      clear hK K
      refine rgTake (i := 15) (N := some 8) (oi := { dst := some 8, op := Op.assign (Operand.tmp 71), type := 55, pos := "asm.go:207", after := #[{ on := 14, ground := Ground.data }, { on := 14, ground := Ground.chain }, { on := 0, ground := Ground.phase }, { on := 1, ground := Ground.phase }, { on := 2, ground := Ground.phase }, { on := 3, ground := Ground.phase }, { on := 4, ground := Ground.phase }, { on := 5, ground := Ground.phase }, { on := 6, ground := Ground.phase }, { on := 7, ground := Ground.phase }, { on := 8, ground := Ground.phase }, { on := 9, ground := Ground.phase }, { on := 10, ground := Ground.phase }, { on := 11, ground := Ground.phase }, { on := 12, ground := Ground.phase }, { on := 13, ground := Ground.phase }, { on := 14, ground := Ground.phase }], guard := none }) (v := ?_) #[true, true, true, true, true, true, true, true, true, true, true, true, true, true, true, true, false] rfl rfl (by kernel_rfl) (fun _ _ _ h => h) (Or.inl ⟨by rfl, ?_⟩) hHeld ?_
      rotate_left
      · intro w' hSw; (try dsimp only at hSw); (have k0 : w'.cell? ⟨b, off + m, none⟩ = some (.string (bs y)) := rdw_at hSw (by rw [← HM.out]; simp)); go_simp; try with_reducible rfl
      simp only [Act.put, List.setIfInBounds_toArray, List.set_cons_zero, List.set_cons_succ]
      refine rgTake (i := 16) (N := some 9) (oi := { dst := some 9, op := Op.assign (Operand.const (Value.int IntKind.i64 0)), type := 26, pos := "asm.go:207", after := #[{ on := 15, ground := Ground.chain }, { on := 0, ground := Ground.phase }, { on := 1, ground := Ground.phase }, { on := 2, ground := Ground.phase }, { on := 3, ground := Ground.phase }, { on := 4, ground := Ground.phase }, { on := 5, ground := Ground.phase }, { on := 6, ground := Ground.phase }, { on := 7, ground := Ground.phase }, { on := 8, ground := Ground.phase }, { on := 9, ground := Ground.phase }, { on := 10, ground := Ground.phase }, { on := 11, ground := Ground.phase }, { on := 12, ground := Ground.phase }, { on := 13, ground := Ground.phase }, { on := 14, ground := Ground.phase }, { on := 15, ground := Ground.phase }], guard := none }) (v := ?_) #[true, true, true, true, true, true, true, true, true, true, true, true, true, true, true, true, true] rfl rfl (by kernel_rfl) (fun _ _ _ h => h) (Or.inl ⟨by rfl, ?_⟩) hHeld ?_
      rotate_left
      · intro w' hSw; (try dsimp only at hSw); (have k0 : w'.cell? ⟨b, off + m, none⟩ = some (.string (bs y)) := rdw_at hSw (by rw [← HM.out]; simp)); go_simp; try with_reducible rfl
      simp only [Act.put, List.setIfInBounds_toArray, List.set_cons_zero, List.set_cons_succ]
      refine rgDone (by kernel_rfl) ?_ _
      go_wp2
      go_ret2
      exact (by rw [← HR.out]; exact listTo_own HO.out (by rw [List.length_append, HM.out]; rfl) (by rw [List.map_append]; rfl) HB.out.1)
theorem last_any {g : Nat} (B : Nat) (s : PS) (p : Prg) (rs : List RowM) (op : Int) (init : List (List UInt8)) (x : List UInt8) (b off N c i : Nat) (w : World) (hg : s.gP = g) (hp : PrgAt w B s p rs) (hr : RdW w (some ⟨b, off, none⟩) (init ++ [x])) (hN : N = init.length + 1) (hc : N ≤ c) (hl : N ≤ 90000) (hx : x.length ≤ 1000000) (hi : i ≤ 16384) (hvs : ∀ q ∈ p.vals, q.2 < 4294967296) :
    Calls Tryd.prog 65 #[.pointer (some ⟨g, 0, none⟩), .int .i64 op, .slice (some ⟨b, off, none⟩) N c, .int .u32 (i : Nat)] w fun e w' => ListTo w w' (lastV p op init x i).2 (lastV p op init x i).1 e := by
  by_cases h : init ≠ [] ∧ isPart (init.getLastD []) = true
  · rcases List.eq_nil_or_concat init with q | ⟨ini, y, q⟩
    · exact absurd q h.1
    · (try rw [List.concat_eq_append] at q)
      subst q
      exact last_part B s p rs op ini y x b off N c i w hg hp hr (by rw [hN]; simp) hc hl hx hvs (by simpa using h.2)
  · exact last_plain B s p rs op init x b off N c i w hg hp hr hN hc hl hx hi hvs h
end Go.Proofs.YtaclidjhgpkmpaaDoor.My
