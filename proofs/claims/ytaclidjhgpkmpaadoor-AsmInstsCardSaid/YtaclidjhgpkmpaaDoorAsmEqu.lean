/- Walk: what .equ does. -/
import Derived.Test.YtaclidjhgpkmpaaDoorAsmDirs
set_option linter.unusedVariables false
set_option linter.unusedSimpArgs false
namespace Go.Proofs.YtaclidjhgpkmpaaDoor.My
open Go.RowKit
theorem belowD (w : World) : Below w.heap.size w w.drew := below_dn (Below.refl _ _) 1
set_option maxRecDepth 100000 in
set_option maxHeartbeats 8000000 in
theorem equ_any (B : Nat) (s : PS) (p : Prg) (rs : List RowM) (x y : List UInt8) (gB b off c : Nat) (w : World) (hp : PrgAt w B s p rs) (ha : ArgsAt w s gB b off [x, y]) (hvl : p.vals.length ≤ 1000000000) (hnl : p.names.length ≤ 1000000000) :
    Calls Tryd.prog 60 #[.slice (some ⟨b, off, none⟩) 2 c, .pointer (some ⟨gB, 0, none⟩)] w fun e w' => PrgPost w B s (equV p x y) e w' := by
  have HP := Lib.hid hp
  have HA := Lib.hid ha
  have HT : Hid (Turn s.ms w w) := Lib.hid (Turn.refl _ _)
  have HVL := Lib.hid (And.intro hvl hnl)
  have hx : x.length ≤ 1000000 := ha.le x (by simp)
  have hy : y.length ≤ 1000000 := ha.le y (by simp)
  have c0 := ha.cell0
  have c1 := ha.cell1
  obtain ⟨R, hR⟩ : ∃ R, equV p x y = R := ⟨_, rfl⟩
  rw [hR]
  unfold equV at hR
  by_cases h1 : isNameV x = false
  · rw [if_pos h1] at hR
    have HR := Lib.hid hR
    have HIN := Lib.hid h1
    clear hR h1 hp ha hvl hnl
    go_enter Tryd.func60, Tryd.ntmps60
    go_wp2_with (go_at_call 55; refine (isName_any x _ hx).mono ?_; rw [HIN.out]; rintro e w1 ⟨rfl, rfl⟩)
    go_ret
    exact codeV (c := 2) (by rw [← HR.out]) (by decide) (Turn.refl _ _)
  rw [if_neg h1] at hR
  have HIN : Hid (isNameV x = true) := Lib.hid (by simpa using h1)
  obtain ⟨r, hr⟩ : ∃ r, findV p.vals x = r := ⟨_, rfl⟩
  rw [hr] at hR
  have HF := Lib.hid hr
  cases r with
  | some q =>
    rw [if_pos (show (some q).isSome = true from rfl)] at hR
    have HR := Lib.hid hR
    obtain ⟨r, hr2⟩ : ∃ r, r = some q := ⟨_, rfl⟩
    rw [← hr2] at hr
    replace HF := Lib.hid hr
    have q1 : r.isSome = true := by rw [hr2]; rfl
    clear hR h1 hp ha hr hr2 hvl hnl
    go_enter Tryd.func60, Tryd.ntmps60
    go_upto_region 3 with (go_at_call 55; refine (isName_any x _ hx).mono ?_; rw [HIN.out]; rintro e w1 ⟨rfl, rfl⟩)
    replace HP := keepP HP (belowD _)
    replace HA := Lib.hid (HA.out.below (belowD _))
    refine rgStart (S := (fun w' => PrgAt w' B s p rs ∧ ArgsAt w' s gB b off [x, y])) (n := 13) #[false, false, false, false, false, false, false, false, false, false, false, false, false] (by kernel_rfl) rfl rfl ⟨HP.out, HA.out⟩ (fun hHeld => ?_)
    refine rgTake (i := 0) (N := some 14) (oi := { dst := some 14, op := Op.load 63 (Operand.tmp 1), type := 63, pos := "asm.go:113", after := #[], guard := none }) (v := ?_) #[true, false, false, false, false, false, false, false, false, false, false, false, false] rfl rfl (by kernel_rfl) (fun _ _ _ h => h) (Or.inl ⟨by rfl, ?_⟩) hHeld ?_
    rotate_left
    · intro w' hSw; (try dsimp only at hSw); have k0 := hSw.2.cell0; have kb := hSw.2.boxc; have k2 : w'.cell? ⟨s.gP, 2, none⟩ = some (.map (some s.gM)) := cell_of_row w' s.gP 2 _ _ _ hSw.1.cells; go_simp; try with_reducible rfl
    simp only [Act.put, List.setIfInBounds_toArray, List.set_cons_zero, List.set_cons_succ]
    refine rgTake (i := 1) (N := some 15) (oi := { dst := some 15, op := Op.nilCheck (Operand.tmp 14), type := 0, pos := "asm.go:113", after := #[{ on := 0, ground := Ground.data }], guard := none }) (v := ?_) #[true, true, false, false, false, false, false, false, false, false, false, false, false] rfl rfl (by kernel_rfl) (fun _ _ _ h => h) (Or.inl ⟨by rfl, ?_⟩) hHeld ?_
    rotate_left
    · intro w' hSw; (try dsimp only at hSw); have k0 := hSw.2.cell0; have kb := hSw.2.boxc; have k2 : w'.cell? ⟨s.gP, 2, none⟩ = some (.map (some s.gM)) := cell_of_row w' s.gP 2 _ _ _ hSw.1.cells; go_simp; try with_reducible rfl
    simp only [Act.put, List.setIfInBounds_toArray, List.set_cons_zero, List.set_cons_succ]
    refine rgTake (i := 2) (N := some 16) (oi := { dst := some 16, op := Op.fieldAddr 68 (Operand.tmp 15) 2, type := 0, pos := "asm.go:113", after := #[{ on := 1, ground := Ground.data }], guard := none }) (v := ?_) #[true, true, true, false, false, false, false, false, false, false, false, false, false] rfl rfl (by kernel_rfl) (fun _ _ _ h => h) (Or.inl ⟨by rfl, ?_⟩) hHeld ?_
    rotate_left
    · intro w' hSw; (try dsimp only at hSw); have k0 := hSw.2.cell0; have kb := hSw.2.boxc; have k2 : w'.cell? ⟨s.gP, 2, none⟩ = some (.map (some s.gM)) := cell_of_row w' s.gP 2 _ _ _ hSw.1.cells; go_simp; try with_reducible rfl
    simp only [Act.put, List.setIfInBounds_toArray, List.set_cons_zero, List.set_cons_succ]
    refine rgTake (i := 3) (N := some 17) (oi := { dst := some 17, op := Op.load 64 (Operand.tmp 16), type := 64, pos := "asm.go:113", after := #[{ on := 2, ground := Ground.data }], guard := none }) (v := ?_) #[true, true, true, true, false, false, false, false, false, false, false, false, false] rfl rfl (by kernel_rfl) (fun _ _ _ h => h) (Or.inl ⟨by rfl, ?_⟩) hHeld ?_
    rotate_left
    · intro w' hSw; (try dsimp only at hSw); have k0 := hSw.2.cell0; have kb := hSw.2.boxc; have k2 : w'.cell? ⟨s.gP, 2, none⟩ = some (.map (some s.gM)) := cell_of_row w' s.gP 2 _ _ _ hSw.1.cells; go_simp; try with_reducible rfl
    simp only [Act.put, List.setIfInBounds_toArray, List.set_cons_zero, List.set_cons_succ]
    refine rgTake (i := 4) (N := some 18) (oi := { dst := some 18, op := Op.move (Operand.tmp 0), type := 55, pos := "asm.go:113", after := #[], guard := none }) (v := ?_) #[true, true, true, true, true, false, false, false, false, false, false, false, false] rfl rfl (by kernel_rfl) (fun _ _ _ h => h) (Or.inl ⟨by rfl, ?_⟩) hHeld ?_
    rotate_left
    · intro w' hSw; (try dsimp only at hSw); have k0 := hSw.2.cell0; have kb := hSw.2.boxc; have k2 : w'.cell? ⟨s.gP, 2, none⟩ = some (.map (some s.gM)) := cell_of_row w' s.gP 2 _ _ _ hSw.1.cells; go_simp; try with_reducible rfl
    simp only [Act.put, List.setIfInBounds_toArray, List.set_cons_zero, List.set_cons_succ]
    refine rgTake (i := 5) (N := some 19) (oi := { dst := some 19, op := Op.indexAddr 55 (Operand.tmp 18) (Operand.const (Value.int IntKind.i64 0)), type := 0, pos := "asm.go:113", after := #[{ on := 4, ground := Ground.data }], guard := none }) (v := ?_) #[true, true, true, true, true, true, false, false, false, false, false, false, false] rfl rfl (by kernel_rfl) (fun _ _ _ h => h) (Or.inl ⟨by rfl, ?_⟩) hHeld ?_
    rotate_left
    · intro w' hSw; (try dsimp only at hSw); have k0 := hSw.2.cell0; have kb := hSw.2.boxc; have k2 : w'.cell? ⟨s.gP, 2, none⟩ = some (.map (some s.gM)) := cell_of_row w' s.gP 2 _ _ _ hSw.1.cells; go_simp; try with_reducible rfl
    simp only [Act.put, List.setIfInBounds_toArray, List.set_cons_zero, List.set_cons_succ]
    refine rgTake (i := 6) (N := some 20) (oi := { dst := some 20, op := Op.load 9 (Operand.tmp 19), type := 9, pos := "asm.go:113", after := #[{ on := 5, ground := Ground.data }], guard := none }) (v := ?_) #[true, true, true, true, true, true, true, false, false, false, false, false, false] rfl rfl (by kernel_rfl) (fun _ _ _ h => h) (Or.inl ⟨by rfl, ?_⟩) hHeld ?_
    rotate_left
    · intro w' hSw; (try dsimp only at hSw); have k0 := hSw.2.cell0; have kb := hSw.2.boxc; have k2 : w'.cell? ⟨s.gP, 2, none⟩ = some (.map (some s.gM)) := cell_of_row w' s.gP 2 _ _ _ hSw.1.cells; go_simp; try with_reducible rfl
    simp only [Act.put, List.setIfInBounds_toArray, List.set_cons_zero, List.set_cons_succ]
    refine rgTake (i := 7) (N := some 21) (oi := { dst := some 21, op := Op.lookup 64 (Operand.tmp 17) (Operand.tmp 20) true, type := 107, pos := "asm.go:113", after := #[{ on := 3, ground := Ground.data }, { on := 6, ground := Ground.data }], guard := none }) (v := _) #[true, true, true, true, true, true, true, true, false, false, false, false, false] rfl rfl (by kernel_rfl) (fun _ _ _ h => h) (yieldsLook (by rfl) _ _ rfl s.gM p.vals rfl x rfl hx r HF.out (fun _ h => h.1.map)) hHeld ?_
    simp only [Act.put, List.setIfInBounds_toArray, List.set_cons_zero, List.set_cons_succ]
    refine rgTake (i := 8) (N := some 13) (oi := { dst := some 13, op := Op.move (Operand.tmp 21), type := 107, pos := "asm.go:113", after := #[{ on := 7, ground := Ground.data }], guard := none }) (v := ?_) #[true, true, true, true, true, true, true, true, true, false, false, false, false] rfl rfl (by kernel_rfl) (fun _ _ _ h => h) (Or.inl ⟨by rfl, ?_⟩) hHeld ?_
    rotate_left
    · intro w' hSw; (try dsimp only at hSw); have k0 := hSw.2.cell0; have kb := hSw.2.boxc; have k2 : w'.cell? ⟨s.gP, 2, none⟩ = some (.map (some s.gM)) := cell_of_row w' s.gP 2 _ _ _ hSw.1.cells; go_simp; try with_reducible rfl
    simp only [Act.put, List.setIfInBounds_toArray, List.set_cons_zero, List.set_cons_succ]
    refine rgTake (i := 9) (N := some 22) (oi := { dst := some 22, op := Op.extract (Operand.tmp 13) 0, type := 25, pos := "asm.go:113", after := #[{ on := 8, ground := Ground.data }], guard := none }) (v := ?_) #[true, true, true, true, true, true, true, true, true, true, false, false, false] rfl rfl (by kernel_rfl) (fun _ _ _ h => h) (Or.inl ⟨by rfl, ?_⟩) hHeld ?_
    rotate_left
    · intro w' hSw; (try dsimp only at hSw); have k0 := hSw.2.cell0; have kb := hSw.2.boxc; have k2 : w'.cell? ⟨s.gP, 2, none⟩ = some (.map (some s.gM)) := cell_of_row w' s.gP 2 _ _ _ hSw.1.cells; go_simp; try with_reducible rfl
    simp only [Act.put, List.setIfInBounds_toArray, List.set_cons_zero, List.set_cons_succ]
    refine rgTake (i := 10) (N := some 23) (oi := { dst := some 23, op := Op.extract (Operand.tmp 13) 1, type := 4, pos := "asm.go:113", after := #[{ on := 8, ground := Ground.data }, { on := 11, ground := Ground.gcOnly Departure.lateStores }], guard := none }) (v := ?_) #[true, true, true, true, true, true, true, true, true, true, true, false, false] rfl rfl (by kernel_rfl) (fun _ _ _ h => h) (Or.inl ⟨by rfl, ?_⟩) hHeld ?_
    rotate_left
    · intro w' hSw; (try dsimp only at hSw); have k0 := hSw.2.cell0; have kb := hSw.2.boxc; have k2 : w'.cell? ⟨s.gP, 2, none⟩ = some (.map (some s.gM)) := cell_of_row w' s.gP 2 _ _ _ hSw.1.cells; go_simp; try with_reducible rfl
    simp only [Act.put, List.setIfInBounds_toArray, List.set_cons_zero, List.set_cons_succ]
    refine rgTake (i := 11) (N := some 4) (oi := { dst := some 4, op := Op.assign (Operand.tmp 22), type := 25, pos := "asm.go:113", after := #[{ on := 9, ground := Ground.data }, { on := 0, ground := Ground.phase }, { on := 1, ground := Ground.phase }, { on := 2, ground := Ground.phase }, { on := 3, ground := Ground.phase }, { on := 4, ground := Ground.phase }, { on := 5, ground := Ground.phase }, { on := 6, ground := Ground.phase }, { on := 7, ground := Ground.phase }, { on := 8, ground := Ground.phase }, { on := 9, ground := Ground.phase }, { on := 10, ground := Ground.textOnly Departure.lateStores }], guard := none }) (v := ?_) #[true, true, true, true, true, true, true, true, true, true, true, true, false] rfl rfl (by kernel_rfl) (fun _ _ _ h => h) (Or.inl ⟨by rfl, ?_⟩) hHeld ?_
    rotate_left
    · intro w' hSw; (try dsimp only at hSw); have k0 := hSw.2.cell0; have kb := hSw.2.boxc; have k2 : w'.cell? ⟨s.gP, 2, none⟩ = some (.map (some s.gM)) := cell_of_row w' s.gP 2 _ _ _ hSw.1.cells; go_simp; try with_reducible rfl
    simp only [Act.put, List.setIfInBounds_toArray, List.set_cons_zero, List.set_cons_succ]
    refine rgTake (i := 12) (N := some 5) (oi := { dst := some 5, op := Op.assign (Operand.tmp 23), type := 4, pos := "asm.go:113", after := #[{ on := 10, ground := Ground.data }, { on := 11, ground := Ground.chain }, { on := 0, ground := Ground.phase }, { on := 1, ground := Ground.phase }, { on := 2, ground := Ground.phase }, { on := 3, ground := Ground.phase }, { on := 4, ground := Ground.phase }, { on := 5, ground := Ground.phase }, { on := 6, ground := Ground.phase }, { on := 7, ground := Ground.phase }, { on := 8, ground := Ground.phase }, { on := 9, ground := Ground.phase }, { on := 10, ground := Ground.phase }, { on := 11, ground := Ground.phase }], guard := none }) (v := ?_) #[true, true, true, true, true, true, true, true, true, true, true, true, true] rfl rfl (by kernel_rfl) (fun _ _ _ h => h) (Or.inl ⟨by rfl, ?_⟩) hHeld ?_
    rotate_left
    · intro w' hSw; (try dsimp only at hSw); have k0 := hSw.2.cell0; have kb := hSw.2.boxc; have k2 : w'.cell? ⟨s.gP, 2, none⟩ = some (.map (some s.gM)) := cell_of_row w' s.gP 2 _ _ _ hSw.1.cells; go_simp; try with_reducible rfl
    simp only [Act.put, List.setIfInBounds_toArray, List.set_cons_zero, List.set_cons_succ]
    refine rgDone (by kernel_rfl) ?_ _
    go_wp2
    go_ret
    exact codeV (c := 7) (by rw [← HR.out]) (by decide) (Turn.of_below (belowD w))
  | none =>
    rw [if_neg (by simp)] at hR
    have hc := number_code y (-2147483648) 4294967295
    obtain ⟨⟨v, E⟩, hN⟩ : ∃ r, numberV y (-2147483648) 4294967295 = r := ⟨_, rfl⟩
    rw [hN] at hR hc
    have HN := Lib.hid hN
    obtain ⟨r, hr2⟩ : ∃ r : Option Nat, r = none := ⟨_, rfl⟩
    rw [← hr2] at hr
    replace HF := Lib.hid hr
    have q1 : r.isSome = false := by rw [hr2]; rfl
    by_cases hE : E = 0
    · subst hE
      rw [if_pos rfl] at hR
      obtain ⟨n, hn0⟩ : ∃ n : Nat, v % 4294967296 = (n : Int) := ⟨(v % 4294967296).toNat, by omega⟩
      have hn : n < 4294967296 := by omega
      have hn2 : IntKind.u32.wrap v = (n : Int) := by rw [IntKind.wrap_u32]; exact hn0
      have hR2 : namedV p x n = R := by
        have e : (v % 4294967296).toNat = n := by omega
        rw [← e]; exact hR
      obtain ⟨⟨C, p'⟩, rfl⟩ : ∃ r, R = r := ⟨R, rfl⟩
      have HNV := Lib.hid hR2
      clear hR hR2 hN hc hp ha h1 hr hr2 hvl hnl
      go_enter Tryd.func60, Tryd.ntmps60
      go_upto_region 3 with (go_at_call 55; refine (isName_any x _ hx).mono ?_; rw [HIN.out]; rintro e w1 ⟨rfl, rfl⟩)
      replace HP := keepP HP (belowD _)
      replace HA := Lib.hid (HA.out.below (belowD _))
      replace HT := keepT HT (belowD _)
      refine rgStart (S := (fun w' => PrgAt w' B s p rs ∧ ArgsAt w' s gB b off [x, y])) (n := 13) #[false, false, false, false, false, false, false, false, false, false, false, false, false] (by kernel_rfl) rfl rfl ⟨HP.out, HA.out⟩ (fun hHeld => ?_)
      refine rgTake (i := 0) (N := some 14) (oi := { dst := some 14, op := Op.load 63 (Operand.tmp 1), type := 63, pos := "asm.go:113", after := #[], guard := none }) (v := ?_) #[true, false, false, false, false, false, false, false, false, false, false, false, false] rfl rfl (by kernel_rfl) (fun _ _ _ h => h) (Or.inl ⟨by rfl, ?_⟩) hHeld ?_
      rotate_left
      · intro w' hSw; (try dsimp only at hSw); have k0 := hSw.2.cell0; have kb := hSw.2.boxc; have k2 : w'.cell? ⟨s.gP, 2, none⟩ = some (.map (some s.gM)) := cell_of_row w' s.gP 2 _ _ _ hSw.1.cells; go_simp; try with_reducible rfl
      simp only [Act.put, List.setIfInBounds_toArray, List.set_cons_zero, List.set_cons_succ]
      refine rgTake (i := 1) (N := some 15) (oi := { dst := some 15, op := Op.nilCheck (Operand.tmp 14), type := 0, pos := "asm.go:113", after := #[{ on := 0, ground := Ground.data }], guard := none }) (v := ?_) #[true, true, false, false, false, false, false, false, false, false, false, false, false] rfl rfl (by kernel_rfl) (fun _ _ _ h => h) (Or.inl ⟨by rfl, ?_⟩) hHeld ?_
      rotate_left
      · intro w' hSw; (try dsimp only at hSw); have k0 := hSw.2.cell0; have kb := hSw.2.boxc; have k2 : w'.cell? ⟨s.gP, 2, none⟩ = some (.map (some s.gM)) := cell_of_row w' s.gP 2 _ _ _ hSw.1.cells; go_simp; try with_reducible rfl
      simp only [Act.put, List.setIfInBounds_toArray, List.set_cons_zero, List.set_cons_succ]
      refine rgTake (i := 2) (N := some 16) (oi := { dst := some 16, op := Op.fieldAddr 68 (Operand.tmp 15) 2, type := 0, pos := "asm.go:113", after := #[{ on := 1, ground := Ground.data }], guard := none }) (v := ?_) #[true, true, true, false, false, false, false, false, false, false, false, false, false] rfl rfl (by kernel_rfl) (fun _ _ _ h => h) (Or.inl ⟨by rfl, ?_⟩) hHeld ?_
      rotate_left
      · intro w' hSw; (try dsimp only at hSw); have k0 := hSw.2.cell0; have kb := hSw.2.boxc; have k2 : w'.cell? ⟨s.gP, 2, none⟩ = some (.map (some s.gM)) := cell_of_row w' s.gP 2 _ _ _ hSw.1.cells; go_simp; try with_reducible rfl
      simp only [Act.put, List.setIfInBounds_toArray, List.set_cons_zero, List.set_cons_succ]
      refine rgTake (i := 3) (N := some 17) (oi := { dst := some 17, op := Op.load 64 (Operand.tmp 16), type := 64, pos := "asm.go:113", after := #[{ on := 2, ground := Ground.data }], guard := none }) (v := ?_) #[true, true, true, true, false, false, false, false, false, false, false, false, false] rfl rfl (by kernel_rfl) (fun _ _ _ h => h) (Or.inl ⟨by rfl, ?_⟩) hHeld ?_
      rotate_left
      · intro w' hSw; (try dsimp only at hSw); have k0 := hSw.2.cell0; have kb := hSw.2.boxc; have k2 : w'.cell? ⟨s.gP, 2, none⟩ = some (.map (some s.gM)) := cell_of_row w' s.gP 2 _ _ _ hSw.1.cells; go_simp; try with_reducible rfl
      simp only [Act.put, List.setIfInBounds_toArray, List.set_cons_zero, List.set_cons_succ]
      refine rgTake (i := 4) (N := some 18) (oi := { dst := some 18, op := Op.move (Operand.tmp 0), type := 55, pos := "asm.go:113", after := #[], guard := none }) (v := ?_) #[true, true, true, true, true, false, false, false, false, false, false, false, false] rfl rfl (by kernel_rfl) (fun _ _ _ h => h) (Or.inl ⟨by rfl, ?_⟩) hHeld ?_
      rotate_left
      · intro w' hSw; (try dsimp only at hSw); have k0 := hSw.2.cell0; have kb := hSw.2.boxc; have k2 : w'.cell? ⟨s.gP, 2, none⟩ = some (.map (some s.gM)) := cell_of_row w' s.gP 2 _ _ _ hSw.1.cells; go_simp; try with_reducible rfl
      simp only [Act.put, List.setIfInBounds_toArray, List.set_cons_zero, List.set_cons_succ]
      refine rgTake (i := 5) (N := some 19) (oi := { dst := some 19, op := Op.indexAddr 55 (Operand.tmp 18) (Operand.const (Value.int IntKind.i64 0)), type := 0, pos := "asm.go:113", after := #[{ on := 4, ground := Ground.data }], guard := none }) (v := ?_) #[true, true, true, true, true, true, false, false, false, false, false, false, false] rfl rfl (by kernel_rfl) (fun _ _ _ h => h) (Or.inl ⟨by rfl, ?_⟩) hHeld ?_
      rotate_left
      · intro w' hSw; (try dsimp only at hSw); have k0 := hSw.2.cell0; have kb := hSw.2.boxc; have k2 : w'.cell? ⟨s.gP, 2, none⟩ = some (.map (some s.gM)) := cell_of_row w' s.gP 2 _ _ _ hSw.1.cells; go_simp; try with_reducible rfl
      simp only [Act.put, List.setIfInBounds_toArray, List.set_cons_zero, List.set_cons_succ]
      refine rgTake (i := 6) (N := some 20) (oi := { dst := some 20, op := Op.load 9 (Operand.tmp 19), type := 9, pos := "asm.go:113", after := #[{ on := 5, ground := Ground.data }], guard := none }) (v := ?_) #[true, true, true, true, true, true, true, false, false, false, false, false, false] rfl rfl (by kernel_rfl) (fun _ _ _ h => h) (Or.inl ⟨by rfl, ?_⟩) hHeld ?_
      rotate_left
      · intro w' hSw; (try dsimp only at hSw); have k0 := hSw.2.cell0; have kb := hSw.2.boxc; have k2 : w'.cell? ⟨s.gP, 2, none⟩ = some (.map (some s.gM)) := cell_of_row w' s.gP 2 _ _ _ hSw.1.cells; go_simp; try with_reducible rfl
      simp only [Act.put, List.setIfInBounds_toArray, List.set_cons_zero, List.set_cons_succ]
      refine rgTake (i := 7) (N := some 21) (oi := { dst := some 21, op := Op.lookup 64 (Operand.tmp 17) (Operand.tmp 20) true, type := 107, pos := "asm.go:113", after := #[{ on := 3, ground := Ground.data }, { on := 6, ground := Ground.data }], guard := none }) (v := _) #[true, true, true, true, true, true, true, true, false, false, false, false, false] rfl rfl (by kernel_rfl) (fun _ _ _ h => h) (yieldsLook (by rfl) _ _ rfl s.gM p.vals rfl x rfl hx r HF.out (fun _ h => h.1.map)) hHeld ?_
      simp only [Act.put, List.setIfInBounds_toArray, List.set_cons_zero, List.set_cons_succ]
      refine rgTake (i := 8) (N := some 13) (oi := { dst := some 13, op := Op.move (Operand.tmp 21), type := 107, pos := "asm.go:113", after := #[{ on := 7, ground := Ground.data }], guard := none }) (v := ?_) #[true, true, true, true, true, true, true, true, true, false, false, false, false] rfl rfl (by kernel_rfl) (fun _ _ _ h => h) (Or.inl ⟨by rfl, ?_⟩) hHeld ?_
      rotate_left
      · intro w' hSw; (try dsimp only at hSw); have k0 := hSw.2.cell0; have kb := hSw.2.boxc; have k2 : w'.cell? ⟨s.gP, 2, none⟩ = some (.map (some s.gM)) := cell_of_row w' s.gP 2 _ _ _ hSw.1.cells; go_simp; try with_reducible rfl
      simp only [Act.put, List.setIfInBounds_toArray, List.set_cons_zero, List.set_cons_succ]
      refine rgTake (i := 9) (N := some 22) (oi := { dst := some 22, op := Op.extract (Operand.tmp 13) 0, type := 25, pos := "asm.go:113", after := #[{ on := 8, ground := Ground.data }], guard := none }) (v := ?_) #[true, true, true, true, true, true, true, true, true, true, false, false, false] rfl rfl (by kernel_rfl) (fun _ _ _ h => h) (Or.inl ⟨by rfl, ?_⟩) hHeld ?_
      rotate_left
      · intro w' hSw; (try dsimp only at hSw); have k0 := hSw.2.cell0; have kb := hSw.2.boxc; have k2 : w'.cell? ⟨s.gP, 2, none⟩ = some (.map (some s.gM)) := cell_of_row w' s.gP 2 _ _ _ hSw.1.cells; go_simp; try with_reducible rfl
      simp only [Act.put, List.setIfInBounds_toArray, List.set_cons_zero, List.set_cons_succ]
      refine rgTake (i := 10) (N := some 23) (oi := { dst := some 23, op := Op.extract (Operand.tmp 13) 1, type := 4, pos := "asm.go:113", after := #[{ on := 8, ground := Ground.data }, { on := 11, ground := Ground.gcOnly Departure.lateStores }], guard := none }) (v := ?_) #[true, true, true, true, true, true, true, true, true, true, true, false, false] rfl rfl (by kernel_rfl) (fun _ _ _ h => h) (Or.inl ⟨by rfl, ?_⟩) hHeld ?_
      rotate_left
      · intro w' hSw; (try dsimp only at hSw); have k0 := hSw.2.cell0; have kb := hSw.2.boxc; have k2 : w'.cell? ⟨s.gP, 2, none⟩ = some (.map (some s.gM)) := cell_of_row w' s.gP 2 _ _ _ hSw.1.cells; go_simp; try with_reducible rfl
      simp only [Act.put, List.setIfInBounds_toArray, List.set_cons_zero, List.set_cons_succ]
      refine rgTake (i := 11) (N := some 4) (oi := { dst := some 4, op := Op.assign (Operand.tmp 22), type := 25, pos := "asm.go:113", after := #[{ on := 9, ground := Ground.data }, { on := 0, ground := Ground.phase }, { on := 1, ground := Ground.phase }, { on := 2, ground := Ground.phase }, { on := 3, ground := Ground.phase }, { on := 4, ground := Ground.phase }, { on := 5, ground := Ground.phase }, { on := 6, ground := Ground.phase }, { on := 7, ground := Ground.phase }, { on := 8, ground := Ground.phase }, { on := 9, ground := Ground.phase }, { on := 10, ground := Ground.textOnly Departure.lateStores }], guard := none }) (v := ?_) #[true, true, true, true, true, true, true, true, true, true, true, true, false] rfl rfl (by kernel_rfl) (fun _ _ _ h => h) (Or.inl ⟨by rfl, ?_⟩) hHeld ?_
      rotate_left
      · intro w' hSw; (try dsimp only at hSw); have k0 := hSw.2.cell0; have kb := hSw.2.boxc; have k2 : w'.cell? ⟨s.gP, 2, none⟩ = some (.map (some s.gM)) := cell_of_row w' s.gP 2 _ _ _ hSw.1.cells; go_simp; try with_reducible rfl
      simp only [Act.put, List.setIfInBounds_toArray, List.set_cons_zero, List.set_cons_succ]
      refine rgTake (i := 12) (N := some 5) (oi := { dst := some 5, op := Op.assign (Operand.tmp 23), type := 4, pos := "asm.go:113", after := #[{ on := 10, ground := Ground.data }, { on := 11, ground := Ground.chain }, { on := 0, ground := Ground.phase }, { on := 1, ground := Ground.phase }, { on := 2, ground := Ground.phase }, { on := 3, ground := Ground.phase }, { on := 4, ground := Ground.phase }, { on := 5, ground := Ground.phase }, { on := 6, ground := Ground.phase }, { on := 7, ground := Ground.phase }, { on := 8, ground := Ground.phase }, { on := 9, ground := Ground.phase }, { on := 10, ground := Ground.phase }, { on := 11, ground := Ground.phase }], guard := none }) (v := ?_) #[true, true, true, true, true, true, true, true, true, true, true, true, true] rfl rfl (by kernel_rfl) (fun _ _ _ h => h) (Or.inl ⟨by rfl, ?_⟩) hHeld ?_
      rotate_left
      · intro w' hSw; (try dsimp only at hSw); have k0 := hSw.2.cell0; have kb := hSw.2.boxc; have k2 : w'.cell? ⟨s.gP, 2, none⟩ = some (.map (some s.gM)) := cell_of_row w' s.gP 2 _ _ _ hSw.1.cells; go_simp; try with_reducible rfl
      simp only [Act.put, List.setIfInBounds_toArray, List.set_cons_zero, List.set_cons_succ]
      refine rgDone (by kernel_rfl) ?_ _
      have c1 := HA.out.cell1
      go_upto_region 8 with (go_at_call 58; refine (number_any y (-2147483648) 4294967295 _ hy).mono ?_; simp only [HN.out]; rintro e w1 ⟨rfl, hb⟩; replace HP := keepP HP hb; replace HA := Lib.hid (HA.out.below hb); replace HT := keepT HT hb; clear hb)
      replace HP := keepP HP (belowD _)
      replace HA := Lib.hid (HA.out.below (belowD _))
      replace HT := keepT HT (belowD _)
      refine rgStartC (S := (fun w' => PrgAt w' B s p rs ∧ ArgsAt w' s gB b off [x, y])) (n := 8) 6 #[false, false, false, false, false, false, false, false] (by kernel_rfl) rfl rfl ⟨HP.out, HA.out⟩ (fun hHeld => ?_)
      refine rgTakeS (i := 0) (N := some 34) (oi := { dst := some 34, op := Op.load 63 (Operand.tmp 1), type := 63, pos := "asm.go:118", after := #[], guard := none }) (v := ?_) #[true, false, false, false, false, false, false, false] rfl rfl (by kernel_rfl) (by kernel_rfl) (fun _ _ _ h => h) (Or.inl ⟨by rfl, ?_⟩) hHeld ?_
      rotate_left
      · intro w' hSw; (try dsimp only at hSw); have k0 := hSw.2.cell0; have kb := hSw.2.boxc; have k2 : w'.cell? ⟨s.gP, 2, none⟩ = some (.map (some s.gM)) := cell_of_row w' s.gP 2 _ _ _ hSw.1.cells; go_simp; try with_reducible rfl
      simp only [Act.put, List.setIfInBounds_toArray, List.set_cons_zero, List.set_cons_succ]
      refine rgTakeA (i := 1) (N := some 35) (oi := { dst := some 35, op := Op.move (Operand.tmp 0), type := 55, pos := "asm.go:118", after := #[], guard := none }) (v := ?_) #[true, true, false, false, false, false, false, false] rfl rfl (by kernel_rfl) (by kernel_rfl) (fun _ _ _ h => h) (Or.inl ⟨by rfl, ?_⟩) (.inr hHeld.out) ?_
      rotate_left
      · intro w' hSw; clear hSw; go_simp; try with_reducible rfl
      simp only [Act.put, List.setIfInBounds_toArray, List.set_cons_zero, List.set_cons_succ]
      refine rgTakeA (i := 2) (N := some 36) (oi := { dst := some 36, op := Op.indexAddr 55 (Operand.tmp 35) (Operand.const (Value.int IntKind.i64 0)), type := 0, pos := "asm.go:118", after := #[{ on := 1, ground := Ground.data }], guard := none }) (v := ?_) #[true, true, true, false, false, false, false, false] rfl rfl (by kernel_rfl) (by kernel_rfl) (fun _ _ _ h => h) (Or.inl ⟨by rfl, ?_⟩) (.inr hHeld.out) ?_
      rotate_left
      · intro w' hSw; clear hSw; go_simp; try with_reducible rfl
      simp only [Act.put, List.setIfInBounds_toArray, List.set_cons_zero, List.set_cons_succ]
      refine rgTakeS (i := 3) (N := some 37) (oi := { dst := some 37, op := Op.load 9 (Operand.tmp 36), type := 9, pos := "asm.go:118", after := #[{ on := 2, ground := Ground.data }], guard := none }) (v := ?_) #[true, true, true, true, false, false, false, false] rfl rfl (by kernel_rfl) (by kernel_rfl) (fun _ _ _ h => h) (Or.inl ⟨by rfl, ?_⟩) hHeld ?_
      rotate_left
      · intro w' hSw; (try dsimp only at hSw); have k0 := hSw.2.cell0; have kb := hSw.2.boxc; have k2 : w'.cell? ⟨s.gP, 2, none⟩ = some (.map (some s.gM)) := cell_of_row w' s.gP 2 _ _ _ hSw.1.cells; go_simp; try with_reducible rfl
      simp only [Act.put, List.setIfInBounds_toArray, List.set_cons_zero, List.set_cons_succ]
      refine rgTakeA (i := 4) (N := some 38) (oi := { dst := some 38, op := Op.move (Operand.tmp 6), type := 2, pos := "asm.go:118", after := #[], guard := none }) (v := ?_) #[true, true, true, true, true, false, false, false] rfl rfl (by kernel_rfl) (by kernel_rfl) (fun _ _ _ h => h) (Or.inl ⟨by rfl, ?_⟩) (.inr hHeld.out) ?_
      rotate_left
      · intro w' hSw; clear hSw; go_simp; try with_reducible rfl
      simp only [Act.put, List.setIfInBounds_toArray, List.set_cons_zero, List.set_cons_succ]
      refine rgTakeA (i := 5) (N := some 39) (oi := { dst := some 39, op := Op.convert 2 25 (Operand.tmp 38), type := 25, pos := "asm.go:118", after := #[{ on := 4, ground := Ground.data }], guard := none }) (v := ?_) #[true, true, true, true, true, true, false, false] rfl rfl (by kernel_rfl) (by kernel_rfl) (fun _ _ _ h => h) (Or.inl ⟨by rfl, ?_⟩) (.inr hHeld.out) ?_
      rotate_left
      · intro w' hSw; clear hSw; go_simp; try with_reducible rfl
      simp only [Act.put, List.setIfInBounds_toArray, List.set_cons_zero, List.set_cons_succ]
      refine rgCallC (i := 6) (N := some 40) (oi := { dst := some 40, op := Op.call { callee := Callee.value (Operand.func 39), args := #[Operand.tmp 34, Operand.tmp 37, Operand.tmp 39], argTypes := #[63, 9, 25] }, type := 26, pos := "asm.go:118", after := #[{ on := 0, ground := Ground.data }, { on := 3, ground := Ground.data }, { on := 5, ground := Ground.data }], guard := none }) #[true, true, true, true, true, true, true, false] rfl rfl (by kernel_rfl) (by rfl) (fun K hK => ?_)
      go_simp
      (go_at_call 39; refine (named_any B s p rs x n _ hHeld.out.1 hx hn HVL.out.1 HVL.out.2).mono ?_; simp only [HNV.out]; rintro e w2 ⟨rfl, ht, hq⟩; have HS := Lib.hid HT.out.size; replace HT := keepTt HT ht (fun k hk => .inl hk); have HQ := Lib.hid hq; clear ht hq hHeld)
      refine hK.out _ _ ?_
      (try simp only [Act.put, List.setIfInBounds_toArray, List.set_cons_zero, List.set_cons_succ])
      clear hK K
      refine rgTakeA (i := 7) (N := some 7) (oi := { dst := some 7, op := Op.assign (Operand.tmp 40), type := 26, pos := "asm.go:118", after := #[{ on := 6, ground := Ground.data }, { on := 6, ground := Ground.chain }, { on := 0, ground := Ground.phase }, { on := 1, ground := Ground.phase }, { on := 2, ground := Ground.phase }, { on := 3, ground := Ground.phase }, { on := 4, ground := Ground.phase }, { on := 5, ground := Ground.phase }, { on := 6, ground := Ground.phase }], guard := none }) (v := ?_) #[true, true, true, true, true, true, true, true] rfl rfl (by kernel_rfl) (by kernel_rfl) (fun _ _ _ h => h) (Or.inl ⟨by rfl, ?_⟩) (.inl (by rfl)) ?_
      rotate_left
      · intro w' hSw; clear hSw; go_simp; try with_reducible rfl
      simp only [Act.put, List.setIfInBounds_toArray, List.set_cons_zero, List.set_cons_succ]
      refine rgDoneC (by kernel_rfl) ?_ _
      go_wp2
      go_ret
      exact ⟨rfl, HT.out, fun h0 => by
        obtain ⟨s', rs', h1, h2⟩ := HQ.out h0
        exact ⟨s', rs', PS.nxt_trans (PS.nxt_refl w s) h1 HS.out, h2⟩⟩
    · rw [if_neg hE] at hR
      have HR := Lib.hid hR
      have hE2 : E = 2 ∨ E = 3 := by rcases hc with ⟨q, _⟩ | q; exact absurd q hE; exact q
      have HE2 := Lib.hid hE2
      have q2 : (E == 0) = false := beq_eq_false_iff_ne.2 hE
      clear hR hN hc hp ha hE hE2 h1 hr hr2 hvl hnl
      go_enter Tryd.func60, Tryd.ntmps60
      go_upto_region 3 with (go_at_call 55; refine (isName_any x _ hx).mono ?_; rw [HIN.out]; rintro e w1 ⟨rfl, rfl⟩)
      replace HP := keepP HP (belowD _)
      replace HA := Lib.hid (HA.out.below (belowD _))
      replace HT := keepT HT (belowD _)
      refine rgStart (S := (fun w' => PrgAt w' B s p rs ∧ ArgsAt w' s gB b off [x, y])) (n := 13) #[false, false, false, false, false, false, false, false, false, false, false, false, false] (by kernel_rfl) rfl rfl ⟨HP.out, HA.out⟩ (fun hHeld => ?_)
      refine rgTake (i := 0) (N := some 14) (oi := { dst := some 14, op := Op.load 63 (Operand.tmp 1), type := 63, pos := "asm.go:113", after := #[], guard := none }) (v := ?_) #[true, false, false, false, false, false, false, false, false, false, false, false, false] rfl rfl (by kernel_rfl) (fun _ _ _ h => h) (Or.inl ⟨by rfl, ?_⟩) hHeld ?_
      rotate_left
      · intro w' hSw; (try dsimp only at hSw); have k0 := hSw.2.cell0; have kb := hSw.2.boxc; have k2 : w'.cell? ⟨s.gP, 2, none⟩ = some (.map (some s.gM)) := cell_of_row w' s.gP 2 _ _ _ hSw.1.cells; go_simp; try with_reducible rfl
      simp only [Act.put, List.setIfInBounds_toArray, List.set_cons_zero, List.set_cons_succ]
      refine rgTake (i := 1) (N := some 15) (oi := { dst := some 15, op := Op.nilCheck (Operand.tmp 14), type := 0, pos := "asm.go:113", after := #[{ on := 0, ground := Ground.data }], guard := none }) (v := ?_) #[true, true, false, false, false, false, false, false, false, false, false, false, false] rfl rfl (by kernel_rfl) (fun _ _ _ h => h) (Or.inl ⟨by rfl, ?_⟩) hHeld ?_
      rotate_left
      · intro w' hSw; (try dsimp only at hSw); have k0 := hSw.2.cell0; have kb := hSw.2.boxc; have k2 : w'.cell? ⟨s.gP, 2, none⟩ = some (.map (some s.gM)) := cell_of_row w' s.gP 2 _ _ _ hSw.1.cells; go_simp; try with_reducible rfl
      simp only [Act.put, List.setIfInBounds_toArray, List.set_cons_zero, List.set_cons_succ]
      refine rgTake (i := 2) (N := some 16) (oi := { dst := some 16, op := Op.fieldAddr 68 (Operand.tmp 15) 2, type := 0, pos := "asm.go:113", after := #[{ on := 1, ground := Ground.data }], guard := none }) (v := ?_) #[true, true, true, false, false, false, false, false, false, false, false, false, false] rfl rfl (by kernel_rfl) (fun _ _ _ h => h) (Or.inl ⟨by rfl, ?_⟩) hHeld ?_
      rotate_left
      · intro w' hSw; (try dsimp only at hSw); have k0 := hSw.2.cell0; have kb := hSw.2.boxc; have k2 : w'.cell? ⟨s.gP, 2, none⟩ = some (.map (some s.gM)) := cell_of_row w' s.gP 2 _ _ _ hSw.1.cells; go_simp; try with_reducible rfl
      simp only [Act.put, List.setIfInBounds_toArray, List.set_cons_zero, List.set_cons_succ]
      refine rgTake (i := 3) (N := some 17) (oi := { dst := some 17, op := Op.load 64 (Operand.tmp 16), type := 64, pos := "asm.go:113", after := #[{ on := 2, ground := Ground.data }], guard := none }) (v := ?_) #[true, true, true, true, false, false, false, false, false, false, false, false, false] rfl rfl (by kernel_rfl) (fun _ _ _ h => h) (Or.inl ⟨by rfl, ?_⟩) hHeld ?_
      rotate_left
      · intro w' hSw; (try dsimp only at hSw); have k0 := hSw.2.cell0; have kb := hSw.2.boxc; have k2 : w'.cell? ⟨s.gP, 2, none⟩ = some (.map (some s.gM)) := cell_of_row w' s.gP 2 _ _ _ hSw.1.cells; go_simp; try with_reducible rfl
      simp only [Act.put, List.setIfInBounds_toArray, List.set_cons_zero, List.set_cons_succ]
      refine rgTake (i := 4) (N := some 18) (oi := { dst := some 18, op := Op.move (Operand.tmp 0), type := 55, pos := "asm.go:113", after := #[], guard := none }) (v := ?_) #[true, true, true, true, true, false, false, false, false, false, false, false, false] rfl rfl (by kernel_rfl) (fun _ _ _ h => h) (Or.inl ⟨by rfl, ?_⟩) hHeld ?_
      rotate_left
      · intro w' hSw; (try dsimp only at hSw); have k0 := hSw.2.cell0; have kb := hSw.2.boxc; have k2 : w'.cell? ⟨s.gP, 2, none⟩ = some (.map (some s.gM)) := cell_of_row w' s.gP 2 _ _ _ hSw.1.cells; go_simp; try with_reducible rfl
      simp only [Act.put, List.setIfInBounds_toArray, List.set_cons_zero, List.set_cons_succ]
      refine rgTake (i := 5) (N := some 19) (oi := { dst := some 19, op := Op.indexAddr 55 (Operand.tmp 18) (Operand.const (Value.int IntKind.i64 0)), type := 0, pos := "asm.go:113", after := #[{ on := 4, ground := Ground.data }], guard := none }) (v := ?_) #[true, true, true, true, true, true, false, false, false, false, false, false, false] rfl rfl (by kernel_rfl) (fun _ _ _ h => h) (Or.inl ⟨by rfl, ?_⟩) hHeld ?_
      rotate_left
      · intro w' hSw; (try dsimp only at hSw); have k0 := hSw.2.cell0; have kb := hSw.2.boxc; have k2 : w'.cell? ⟨s.gP, 2, none⟩ = some (.map (some s.gM)) := cell_of_row w' s.gP 2 _ _ _ hSw.1.cells; go_simp; try with_reducible rfl
      simp only [Act.put, List.setIfInBounds_toArray, List.set_cons_zero, List.set_cons_succ]
      refine rgTake (i := 6) (N := some 20) (oi := { dst := some 20, op := Op.load 9 (Operand.tmp 19), type := 9, pos := "asm.go:113", after := #[{ on := 5, ground := Ground.data }], guard := none }) (v := ?_) #[true, true, true, true, true, true, true, false, false, false, false, false, false] rfl rfl (by kernel_rfl) (fun _ _ _ h => h) (Or.inl ⟨by rfl, ?_⟩) hHeld ?_
      rotate_left
      · intro w' hSw; (try dsimp only at hSw); have k0 := hSw.2.cell0; have kb := hSw.2.boxc; have k2 : w'.cell? ⟨s.gP, 2, none⟩ = some (.map (some s.gM)) := cell_of_row w' s.gP 2 _ _ _ hSw.1.cells; go_simp; try with_reducible rfl
      simp only [Act.put, List.setIfInBounds_toArray, List.set_cons_zero, List.set_cons_succ]
      refine rgTake (i := 7) (N := some 21) (oi := { dst := some 21, op := Op.lookup 64 (Operand.tmp 17) (Operand.tmp 20) true, type := 107, pos := "asm.go:113", after := #[{ on := 3, ground := Ground.data }, { on := 6, ground := Ground.data }], guard := none }) (v := _) #[true, true, true, true, true, true, true, true, false, false, false, false, false] rfl rfl (by kernel_rfl) (fun _ _ _ h => h) (yieldsLook (by rfl) _ _ rfl s.gM p.vals rfl x rfl hx r HF.out (fun _ h => h.1.map)) hHeld ?_
      simp only [Act.put, List.setIfInBounds_toArray, List.set_cons_zero, List.set_cons_succ]
      refine rgTake (i := 8) (N := some 13) (oi := { dst := some 13, op := Op.move (Operand.tmp 21), type := 107, pos := "asm.go:113", after := #[{ on := 7, ground := Ground.data }], guard := none }) (v := ?_) #[true, true, true, true, true, true, true, true, true, false, false, false, false] rfl rfl (by kernel_rfl) (fun _ _ _ h => h) (Or.inl ⟨by rfl, ?_⟩) hHeld ?_
      rotate_left
      · intro w' hSw; (try dsimp only at hSw); have k0 := hSw.2.cell0; have kb := hSw.2.boxc; have k2 : w'.cell? ⟨s.gP, 2, none⟩ = some (.map (some s.gM)) := cell_of_row w' s.gP 2 _ _ _ hSw.1.cells; go_simp; try with_reducible rfl
      simp only [Act.put, List.setIfInBounds_toArray, List.set_cons_zero, List.set_cons_succ]
      refine rgTake (i := 9) (N := some 22) (oi := { dst := some 22, op := Op.extract (Operand.tmp 13) 0, type := 25, pos := "asm.go:113", after := #[{ on := 8, ground := Ground.data }], guard := none }) (v := ?_) #[true, true, true, true, true, true, true, true, true, true, false, false, false] rfl rfl (by kernel_rfl) (fun _ _ _ h => h) (Or.inl ⟨by rfl, ?_⟩) hHeld ?_
      rotate_left
      · intro w' hSw; (try dsimp only at hSw); have k0 := hSw.2.cell0; have kb := hSw.2.boxc; have k2 : w'.cell? ⟨s.gP, 2, none⟩ = some (.map (some s.gM)) := cell_of_row w' s.gP 2 _ _ _ hSw.1.cells; go_simp; try with_reducible rfl
      simp only [Act.put, List.setIfInBounds_toArray, List.set_cons_zero, List.set_cons_succ]
      refine rgTake (i := 10) (N := some 23) (oi := { dst := some 23, op := Op.extract (Operand.tmp 13) 1, type := 4, pos := "asm.go:113", after := #[{ on := 8, ground := Ground.data }, { on := 11, ground := Ground.gcOnly Departure.lateStores }], guard := none }) (v := ?_) #[true, true, true, true, true, true, true, true, true, true, true, false, false] rfl rfl (by kernel_rfl) (fun _ _ _ h => h) (Or.inl ⟨by rfl, ?_⟩) hHeld ?_
      rotate_left
      · intro w' hSw; (try dsimp only at hSw); have k0 := hSw.2.cell0; have kb := hSw.2.boxc; have k2 : w'.cell? ⟨s.gP, 2, none⟩ = some (.map (some s.gM)) := cell_of_row w' s.gP 2 _ _ _ hSw.1.cells; go_simp; try with_reducible rfl
      simp only [Act.put, List.setIfInBounds_toArray, List.set_cons_zero, List.set_cons_succ]
      refine rgTake (i := 11) (N := some 4) (oi := { dst := some 4, op := Op.assign (Operand.tmp 22), type := 25, pos := "asm.go:113", after := #[{ on := 9, ground := Ground.data }, { on := 0, ground := Ground.phase }, { on := 1, ground := Ground.phase }, { on := 2, ground := Ground.phase }, { on := 3, ground := Ground.phase }, { on := 4, ground := Ground.phase }, { on := 5, ground := Ground.phase }, { on := 6, ground := Ground.phase }, { on := 7, ground := Ground.phase }, { on := 8, ground := Ground.phase }, { on := 9, ground := Ground.phase }, { on := 10, ground := Ground.textOnly Departure.lateStores }], guard := none }) (v := ?_) #[true, true, true, true, true, true, true, true, true, true, true, true, false] rfl rfl (by kernel_rfl) (fun _ _ _ h => h) (Or.inl ⟨by rfl, ?_⟩) hHeld ?_
      rotate_left
      · intro w' hSw; (try dsimp only at hSw); have k0 := hSw.2.cell0; have kb := hSw.2.boxc; have k2 : w'.cell? ⟨s.gP, 2, none⟩ = some (.map (some s.gM)) := cell_of_row w' s.gP 2 _ _ _ hSw.1.cells; go_simp; try with_reducible rfl
      simp only [Act.put, List.setIfInBounds_toArray, List.set_cons_zero, List.set_cons_succ]
      refine rgTake (i := 12) (N := some 5) (oi := { dst := some 5, op := Op.assign (Operand.tmp 23), type := 4, pos := "asm.go:113", after := #[{ on := 10, ground := Ground.data }, { on := 11, ground := Ground.chain }, { on := 0, ground := Ground.phase }, { on := 1, ground := Ground.phase }, { on := 2, ground := Ground.phase }, { on := 3, ground := Ground.phase }, { on := 4, ground := Ground.phase }, { on := 5, ground := Ground.phase }, { on := 6, ground := Ground.phase }, { on := 7, ground := Ground.phase }, { on := 8, ground := Ground.phase }, { on := 9, ground := Ground.phase }, { on := 10, ground := Ground.phase }, { on := 11, ground := Ground.phase }], guard := none }) (v := ?_) #[true, true, true, true, true, true, true, true, true, true, true, true, true] rfl rfl (by kernel_rfl) (fun _ _ _ h => h) (Or.inl ⟨by rfl, ?_⟩) hHeld ?_
      rotate_left
      · intro w' hSw; (try dsimp only at hSw); have k0 := hSw.2.cell0; have kb := hSw.2.boxc; have k2 : w'.cell? ⟨s.gP, 2, none⟩ = some (.map (some s.gM)) := cell_of_row w' s.gP 2 _ _ _ hSw.1.cells; go_simp; try with_reducible rfl
      simp only [Act.put, List.setIfInBounds_toArray, List.set_cons_zero, List.set_cons_succ]
      refine rgDone (by kernel_rfl) ?_ _
      have c1 := HA.out.cell1
      go_wp2_with (go_at_call 58; refine (number_any y (-2147483648) 4294967295 _ hy).mono ?_; simp only [HN.out]; rintro e w1 ⟨rfl, hb⟩; replace HP := keepP HP hb; replace HA := Lib.hid (HA.out.below hb); replace HT := keepT HT hb; clear hb)
      go_ret
      exact pp_wrong (by rw [← HR.out]) HE2.out HT.out
end Go.Proofs.YtaclidjhgpkmpaaDoor.My
