/- Walk: a line is gone through for the first time. -/
import Derived.Test.YtaclidjhgpkmpaaDoorAsmFirst0
set_option linter.unusedVariables false
set_option linter.unusedSimpArgs false
namespace Go.Proofs.YtaclidjhgpkmpaaDoor.My
open Go.RowKit
theorem rdw_head {w : World} {b off : Nat} {x : List UInt8} {r : List (List UInt8)} (h : RdW w (some ⟨b, off, none⟩) (x :: r)) : w.cell? ⟨b, off, none⟩ = some (.string (bs x)) := by
  obtain ⟨b', off', hA, hc⟩ := h (by simp)
  injection hA with hA
  injection hA with h1 h2 _
  subst h1; subst h2
  exact hc 0 x rfl
theorem cons_inj0 {x : List UInt8} {c : UInt8} {t : List UInt8} (h : x = c :: t) : bAt (bs x) 0 = c.toNat ∧ x.head? = some c := by subst h; exact ⟨rfl, rfl⟩
set_option maxRecDepth 100000 in
set_option maxHeartbeats 8000000 in
theorem first_any (B : Nat) (s : PS) (p : Prg) (rs : List RowM) (l : List UInt8) (m : Int) (w : World) (hp : PrgAt w B s p rs) (hl : l.length ≤ 90000) (hm : w.cell? ⟨3, 0, none⟩ = some (.int .i64 m)) (hv : p.vals.length ≤ 900000000) (hn : p.names.length ≤ 900000000) (hr : p.rows.length ≤ 1000000) :
    Calls Tryd.prog 25 #[.pointer (some ⟨s.gP, 0, none⟩), .string (bs l)] w fun e w' => PrgPost w B s (firstV p l) e w' := by
  obtain ⟨g, hgP⟩ : ∃ g, s.gP = g := ⟨_, rfl⟩
  rw [hgP]
  have HG := Lib.hid hgP
  clear hgP
  obtain ⟨R, hR⟩ : ∃ R, firstV p l = R := ⟨_, rfl⟩
  rw [hR]
  unfold firstV at hR
  have HP := Lib.hid hp
  have HT : Hid (Turn s.ms w w) := Lib.hid (Turn.refl _ _)
  have hl1 : l.length ≤ 1000000 := by omega
  have hC0 := codeL_le l
  obtain ⟨C, hC⟩ : ∃ C, codeL l = C := ⟨_, rfl⟩
  rw [hC] at hR hC0
  have HC := Lib.hid hC
  have hC1 : (bs C).size ≤ 1000000 := by rw [bs_size]; omega
  obtain ⟨hW1, hW2⟩ := wordsP_ok C
  have HWA : Hid (∀ x ∈ wordsP C, 1 ≤ x.length ∧ x.length ≤ 90000) := Lib.hid (fun x hx => ⟨(hW1 x hx).1, Nat.le_trans (hW1 x hx).2 (by omega)⟩)
  have hW3 : (wordsP C).length ≤ 90000 := by omega
  have HR := Lib.hid hR
  have HNX : Hid (s.nxt w s) := Lib.hid (PS.nxt_refl _ _)
  clear hR hC hp hW1 hW2 hC0
  go_enter Tryd.func25, Tryd.ntmps25
  go_wp2_with (first | (go_at_call 36; refine (cut59_any l m _ hl1 hm).mono ?_; rintro e w1 ⟨⟨x, b, rfl⟩, hb⟩; simp only [HC.out]; replace HP := keepP HP hb; replace HT := keepT HT hb; clear hb) | (go_at_call 37; refine (words_any (bs C) _ hC1).mono ?_; rintro e w2 ⟨⟨v, rfl, hown⟩, hb⟩; obtain ⟨A, c, rfl, hcap, hrd, hfr⟩ := own_words hown; have HOU := Lib.hid (show Out A (wordsP C).length s.ms from fun a ha hn q => by have h1 := (hfr a ha hn).1; have h2 := HP.out.lt _ q; omega); replace HP := keepP HP hb; replace HT := keepT HT hb; have HRD := Lib.hid hrd; clear hb hown hrd hfr))
  have HB0 := Lib.hid (And.intro hv (And.intro hn hr))
  obtain ⟨W, hW⟩ : ∃ W, wordsP C = W := ⟨_, rfl⟩
  rw [hW] at HR HWA HRD HOU hcap hW3 ⊢
  clear hv hn hr hW hC1 HC
  go_loopg [5] (W.length) (fun gk v wr => ∃ (s1 : PS) (p1 : Prg) (rs1 : List RowM) (A1 : Option Addr) (c1 : Nat) (ws : List (List UInt8)), v = .slice A1 ws.length c1 ∧ ws.length = gk ∧ gk ≤ 90000 ∧ ws.length ≤ c1 ∧ Hid (p1.vals.length + gk ≤ 900090000 ∧ p1.names.length + gk ≤ 900090000 ∧ p1.rows.length ≤ 1000000) ∧ Hid (∀ x ∈ ws, 1 ≤ x.length ∧ x.length ≤ 90000) ∧ Hid (firstW p1 ws = R) ∧ Hid (PrgAt wr B s1 p1 rs1) ∧ Hid (RdW wr A1 ws) ∧ Hid (Out A1 ws.length s1.ms) ∧ Hid (Turn s.ms w wr) ∧ Hid (s.nxt w s1))
  case atStart => exact ⟨s, p, rs, A, c, W, rfl, rfl, hW3, hcap, Lib.hid ⟨by have := HB0.out.1; omega, by have := HB0.out.2.1; omega, HB0.out.2.2⟩, HWA, HR, HP, HRD, HOU, HT, HNX⟩
  case round =>
    clear HB0 HWA HR HP HRD HOU HT HNX hcap hW3 hl hm hl1
    obtain ⟨s1, p1, rs1, A1, c1, ws, rfl, hgk, hg9, hcap, HBD, HWA, HR, HP, HRD, HOU, HT, HNX⟩ := hrel
    obtain ⟨h, hh⟩ : ∃ h, p1.here = h := ⟨_, rfl⟩
    have HHE := Lib.hid hh
    have HG1 : Hid (s1.gP = g) := Lib.hid (HNX.out.1.trans HG.out)
    have hh16 : h ≤ 16384 := hh ▸ HP.out.here
    have hh32 : h < 4294967296 := by omega
    have hwr : IntKind.u32.wrap (h : Int) = (h : Int) := by rw [IntKind.wrap_u32]; omega
    clear hh
    cases ws with
    | nil =>
      have HCS : Hid (rowA ⟨A1, c1, [], h⟩ = #[.slice A1 0 c1, .int .u32 (h : Nat)]) := Lib.hid rfl
      have hrl : rs1.length ≤ 1000000 := by have h1 := HP.out.prow; have h2 := HBD.out.2.2; rw [h1, List.length_map] at h2; exact h2
      have HR2 : Hid ((0, rowV p1 []) = R) := HR
      clear HR HBD HWA
      subst hgk
      rw [show ([] : List (List UInt8)).length = 0 from rfl]
      go_upto_region 8 with fail
      replace HP := keepP HP (belowD _)
      replace HT := keepT HT (belowD _)
      replace HRD := Lib.hid (HRD.out.below (belowD _))
      refine rgStartC (S := (fun w' => w'.heap[g]? = some (.cells (prgA s1 p1) 68 (0, 0)))) (n := 17) 13 #[false, false, false, false, false, false, false, false, false, false, false, false, false, false, false, false, false] (by kernel_rfl) rfl rfl (HG1.out ▸ HP.out.cells) (fun hHeld => ?_)
      refine rgTakeA (i := 0) (N := some 43) (oi := { dst := some 43, op := Op.move (Operand.tmp 0), type := 63, pos := "asm.go:140", after := #[], guard := none }) (v := ?_) #[true, false, false, false, false, false, false, false, false, false, false, false, false, false, false, false, false] rfl rfl (by kernel_rfl) (by kernel_rfl) (fun _ _ _ h => h) (Or.inl ⟨by rfl, ?_⟩) (.inr hHeld.out) ?_
      rotate_left
      · intro w' hSw; clear hSw; go_simp; try with_reducible rfl
      simp only [Act.put, List.setIfInBounds_toArray, List.set_cons_zero, List.set_cons_succ]
      refine rgTakeA (i := 1) (N := some 44) (oi := { dst := some 44, op := Op.move (Operand.tmp 0), type := 63, pos := "asm.go:140", after := #[], guard := none }) (v := ?_) #[true, true, false, false, false, false, false, false, false, false, false, false, false, false, false, false, false] rfl rfl (by kernel_rfl) (by kernel_rfl) (fun _ _ _ h => h) (Or.inl ⟨by rfl, ?_⟩) (.inr hHeld.out) ?_
      rotate_left
      · intro w' hSw; clear hSw; go_simp; try with_reducible rfl
      simp only [Act.put, List.setIfInBounds_toArray, List.set_cons_zero, List.set_cons_succ]
      refine rgTakeA (i := 2) (N := some 45) (oi := { dst := some 45, op := Op.nilCheck (Operand.tmp 44), type := 0, pos := "asm.go:140", after := #[{ on := 1, ground := Ground.data }], guard := none }) (v := ?_) #[true, true, true, false, false, false, false, false, false, false, false, false, false, false, false, false, false] rfl rfl (by kernel_rfl) (by kernel_rfl) (fun _ _ _ h => h) (Or.inl ⟨by rfl, ?_⟩) (.inr hHeld.out) ?_
      rotate_left
      · intro w' hSw; clear hSw; go_simp; try with_reducible rfl
      simp only [Act.put, List.setIfInBounds_toArray, List.set_cons_zero, List.set_cons_succ]
      refine rgTakeA (i := 3) (N := some 46) (oi := { dst := some 46, op := Op.fieldAddr 68 (Operand.tmp 45) 0, type := 0, pos := "asm.go:140", after := #[{ on := 2, ground := Ground.data }], guard := none }) (v := ?_) #[true, true, true, true, false, false, false, false, false, false, false, false, false, false, false, false, false] rfl rfl (by kernel_rfl) (by kernel_rfl) (fun _ _ _ h => h) (Or.inl ⟨by rfl, ?_⟩) (.inr hHeld.out) ?_
      rotate_left
      · intro w' hSw; clear hSw; go_simp; try with_reducible rfl
      simp only [Act.put, List.setIfInBounds_toArray, List.set_cons_zero, List.set_cons_succ]
      refine rgTakeS (i := 4) (N := some 47) (oi := { dst := some 47, op := Op.load 66 (Operand.tmp 46), type := 66, pos := "asm.go:140", after := #[{ on := 3, ground := Ground.data }], guard := none }) (v := ?_) #[true, true, true, true, true, false, false, false, false, false, false, false, false, false, false, false, false] rfl rfl (by kernel_rfl) (by kernel_rfl) (fun _ _ _ h => h) (Or.inl ⟨by rfl, ?_⟩) hHeld ?_
      rotate_left
      · intro w' hSw; (try dsimp only at hSw); (have k3 : w'.cell? ⟨g, 3, none⟩ = some (.int .i64 (h : Nat)) := by rw [cell_of_row w' g 3 _ _ _ hSw, ← HHE.out]; rfl); have k0 : w'.cell? ⟨g, 0, none⟩ = some s1.rv := cell_of_row w' g 0 _ _ _ hSw; go_simp; try with_reducible rfl
      simp only [Act.put, List.setIfInBounds_toArray, List.set_cons_zero, List.set_cons_succ]
      refine rgTakeA (i := 5) (N := some 48) (oi := { dst := some 48, op := Op.move (Operand.tmp 5), type := 55, pos := "asm.go:140", after := #[], guard := none }) (v := ?_) #[true, true, true, true, true, true, false, false, false, false, false, false, false, false, false, false, false] rfl rfl (by kernel_rfl) (by kernel_rfl) (fun _ _ _ h => h) (Or.inl ⟨by rfl, ?_⟩) (.inr hHeld.out) ?_
      rotate_left
      · intro w' hSw; clear hSw; go_simp; try with_reducible rfl
      simp only [Act.put, List.setIfInBounds_toArray, List.set_cons_zero, List.set_cons_succ]
      refine rgTakeA (i := 6) (N := some 49) (oi := { dst := some 49, op := Op.move (Operand.tmp 0), type := 63, pos := "asm.go:140", after := #[], guard := none }) (v := ?_) #[true, true, true, true, true, true, true, false, false, false, false, false, false, false, false, false, false] rfl rfl (by kernel_rfl) (by kernel_rfl) (fun _ _ _ h => h) (Or.inl ⟨by rfl, ?_⟩) (.inr hHeld.out) ?_
      rotate_left
      · intro w' hSw; clear hSw; go_simp; try with_reducible rfl
      simp only [Act.put, List.setIfInBounds_toArray, List.set_cons_zero, List.set_cons_succ]
      refine rgTakeA (i := 7) (N := some 50) (oi := { dst := some 50, op := Op.nilCheck (Operand.tmp 49), type := 0, pos := "asm.go:140", after := #[{ on := 6, ground := Ground.data }], guard := none }) (v := ?_) #[true, true, true, true, true, true, true, true, false, false, false, false, false, false, false, false, false] rfl rfl (by kernel_rfl) (by kernel_rfl) (fun _ _ _ h => h) (Or.inl ⟨by rfl, ?_⟩) (.inr hHeld.out) ?_
      rotate_left
      · intro w' hSw; clear hSw; go_simp; try with_reducible rfl
      simp only [Act.put, List.setIfInBounds_toArray, List.set_cons_zero, List.set_cons_succ]
      refine rgTakeA (i := 8) (N := some 51) (oi := { dst := some 51, op := Op.fieldAddr 68 (Operand.tmp 50) 3, type := 0, pos := "asm.go:140", after := #[{ on := 7, ground := Ground.data }], guard := none }) (v := ?_) #[true, true, true, true, true, true, true, true, true, false, false, false, false, false, false, false, false] rfl rfl (by kernel_rfl) (by kernel_rfl) (fun _ _ _ h => h) (Or.inl ⟨by rfl, ?_⟩) (.inr hHeld.out) ?_
      rotate_left
      · intro w' hSw; clear hSw; go_simp; try with_reducible rfl
      simp only [Act.put, List.setIfInBounds_toArray, List.set_cons_zero, List.set_cons_succ]
      refine rgTakeD [10, 11, 12] (i := 9) (N := some 52) (oi := { dst := some 52, op := Op.load 2 (Operand.tmp 51), type := 2, pos := "asm.go:140", after := #[{ on := 8, ground := Ground.data }], guard := none }) (v := ?_) #[true, true, true, true, true, true, true, true, true, true, false, false, false, false, false, false, false] rfl rfl (by kernel_rfl) (by kernel_rfl) (fun _ _ _ h => h) (Or.inl ⟨by rfl, ?_⟩) hHeld ?_
      rotate_left
      · intro w' hSw; (try dsimp only at hSw); (have k3 : w'.cell? ⟨g, 3, none⟩ = some (.int .i64 (h : Nat)) := by rw [cell_of_row w' g 3 _ _ _ hSw, ← HHE.out]; rfl); have k0 : w'.cell? ⟨g, 0, none⟩ = some s1.rv := cell_of_row w' g 0 _ _ _ hSw; go_simp; try with_reducible rfl
      simp only [Act.put, List.setIfInBounds_toArray, List.set_cons_zero, List.set_cons_succ]
      refine rgTakeA (i := 10) (N := some 53) (oi := { dst := some 53, op := Op.convert 2 25 (Operand.tmp 52), type := 25, pos := "asm.go:140", after := #[{ on := 9, ground := Ground.data }], guard := none }) (v := ?_) #[true, true, true, true, true, true, true, true, true, true, true, false, false, false, false, false, false] rfl rfl (by kernel_rfl) (by kernel_rfl) (fun _ _ _ h => h) (Or.inl ⟨by rfl, ?_⟩) (.inr hHeld.out) ?_
      rotate_left
      · intro w' hSw; clear hSw; go_simp; try with_reducible rfl
      simp only [Act.put, List.setIfInBounds_toArray, List.set_cons_zero, List.set_cons_succ]
      refine rgTakeA (i := 11) (N := some 54) (oi := { dst := some 54, op := Op.build 71 #[(0, Operand.tmp 48), (1, Operand.tmp 53)], type := 71, pos := "asm.go:140", after := #[{ on := 5, ground := Ground.data }, { on := 10, ground := Ground.data }], guard := none }) (v := ?_) #[true, true, true, true, true, true, true, true, true, true, true, true, false, false, false, false, false] rfl rfl (by kernel_rfl) (by kernel_rfl) (fun _ _ _ h => h) (Or.inl ⟨by rfl, ?_⟩) (.inr hHeld.out) ?_
      rotate_left
      · intro w' hSw; clear hSw; go_simp; try with_reducible rfl
      simp only [Act.put, List.setIfInBounds_toArray, List.set_cons_zero, List.set_cons_succ]
      refine rgCallD (i := 12) (N := some 55) (oi := { dst := some 55, op := Op.buildSlice 66 1 #[(0, Operand.tmp 54)], type := 66, pos := "asm.go:140", after := #[{ on := 11, ground := Ground.data }], guard := none }) #[true, true, true, true, true, true, true, true, true, true, true, true, true, false, false, false, false] rfl rfl (by kernel_rfl) (fun K hK => ?_)
      (refine rgLit (by rfl) 66 1 _ rfl #[.slice A1 0 c1, .int .u32 (h : Nat)] 71 (fun _ => by kernel_rfl) ?_; intro gN w3 hg1 hg2 ha hb; replace HP := keepP HP hb; replace HT := keepT HT hb; replace HRD := Lib.hid (HRD.out.below hb); have HN := Lib.hid ha; clear ha hb hg1 hg2)
      refine hK.out _ _ (HG1.out ▸ HP.out.cells) (fun hHeld => ?_)
      (try simp only [Act.put, List.setIfInBounds_toArray, List.set_cons_zero, List.set_cons_succ])
      clear hK K
      refine rgCallC (i := 13) (N := some 56) (oi := { dst := some 56, op := Op.call { callee := Callee.builtin Builtin.append, args := #[Operand.tmp 47, Operand.tmp 55], argTypes := #[66, 66] }, type := 66, pos := "asm.go:140", after := #[{ on := 4, ground := Ground.data }, { on := 12, ground := Ground.data }], guard := none }) #[true, true, true, true, true, true, true, true, true, true, true, true, true, true, false, false, false] rfl rfl (by kernel_rfl) (by rfl) (fun K hK => ?_)
      (refine rgAppRow (by rfl) _ _ 66 71 (.agg #[.slice none 0 0, .int .u32 0]) 2 32 rfl Tryd.underlying66 infoRo rfl (by decide) B s1.rv rs1.length (rowsC rs1) rfl HP.out.rows #[.slice A1 0 c1, .int .u32 (h : Nat)] rfl (by simp [Value.oneCell']) gN 1 rfl HN.out (by unfold maxLen; omega) (by omega) (Nat.le_trans (HP.out.ge _ s1.mem_P) (Nat.le_of_lt (HP.out.lt _ s1.mem_P))) ?_; intro v' w4 hown hgr hv; obtain ⟨A', c', rfl⟩ := own_valk hown; have HGC := Lib.hid (HP.out.grownCells HG1.out hgr); have HX := Lib.hid (And.intro hgr (And.intro hv hown)); clear hgr hv hown hHeld)
      refine hK.out _ _ ?_
      (try simp only [Act.put, List.setIfInBounds_toArray, List.set_cons_zero, List.set_cons_succ])
      clear hK K
      refine rgTakeA (i := 14) (N := some 57) (oi := { dst := some 57, op := Op.nilCheck (Operand.tmp 43), type := 0, pos := "asm.go:140", after := #[{ on := 0, ground := Ground.data }, { on := 0, ground := Ground.phase }, { on := 1, ground := Ground.phase }, { on := 2, ground := Ground.phase }, { on := 3, ground := Ground.phase }, { on := 4, ground := Ground.phase }, { on := 5, ground := Ground.phase }, { on := 6, ground := Ground.phase }, { on := 7, ground := Ground.phase }, { on := 8, ground := Ground.phase }, { on := 9, ground := Ground.phase }, { on := 10, ground := Ground.phase }, { on := 11, ground := Ground.phase }, { on := 12, ground := Ground.phase }, { on := 13, ground := Ground.phase }], guard := none }) (v := ?_) #[true, true, true, true, true, true, true, true, true, true, true, true, true, true, true, false, false] rfl rfl (by kernel_rfl) (by kernel_rfl) (fun _ _ _ h => h) (Or.inl ⟨by rfl, ?_⟩) (.inl (by rfl)) ?_
      rotate_left
      · intro w' hSw; clear hSw; go_simp; try with_reducible rfl
      simp only [Act.put, List.setIfInBounds_toArray, List.set_cons_zero, List.set_cons_succ]
      refine rgTakeA (i := 15) (N := some 58) (oi := { dst := some 58, op := Op.fieldAddr 68 (Operand.tmp 57) 0, type := 0, pos := "asm.go:140", after := #[{ on := 14, ground := Ground.data }, { on := 0, ground := Ground.phase }, { on := 1, ground := Ground.phase }, { on := 2, ground := Ground.phase }, { on := 3, ground := Ground.phase }, { on := 4, ground := Ground.phase }, { on := 5, ground := Ground.phase }, { on := 6, ground := Ground.phase }, { on := 7, ground := Ground.phase }, { on := 8, ground := Ground.phase }, { on := 9, ground := Ground.phase }, { on := 10, ground := Ground.phase }, { on := 11, ground := Ground.phase }, { on := 12, ground := Ground.phase }, { on := 13, ground := Ground.phase }], guard := none }) (v := ?_) #[true, true, true, true, true, true, true, true, true, true, true, true, true, true, true, true, false] rfl rfl (by kernel_rfl) (by kernel_rfl) (fun _ _ _ h => h) (Or.inl ⟨by rfl, ?_⟩) (.inl (by rfl)) ?_
      rotate_left
      · intro w' hSw; clear hSw; go_simp; try with_reducible rfl
      simp only [Act.put, List.setIfInBounds_toArray, List.set_cons_zero, List.set_cons_succ]
      refine rgCallC (i := 16) (N := none) (oi := { dst := none, op := Op.store 66 (Operand.tmp 58) (Operand.tmp 56), type := 0, pos := "asm.go:140", after := #[{ on := 15, ground := Ground.data }, { on := 13, ground := Ground.data }, { on := 13, ground := Ground.chain }, { on := 0, ground := Ground.phase }, { on := 1, ground := Ground.phase }, { on := 2, ground := Ground.phase }, { on := 3, ground := Ground.phase }, { on := 4, ground := Ground.phase }, { on := 5, ground := Ground.phase }, { on := 6, ground := Ground.phase }, { on := 7, ground := Ground.phase }, { on := 8, ground := Ground.phase }, { on := 9, ground := Ground.phase }, { on := 10, ground := Ground.phase }, { on := 11, ground := Ground.phase }, { on := 12, ground := Ground.phase }, { on := 13, ground := Ground.phase }], guard := none }) #[true, true, true, true, true, true, true, true, true, true, true, true, true, true, true, true, true] rfl rfl (by kernel_rfl) (by rfl) (fun K hK => ?_)
      (refine rgCell (by rfl) 66 _ _ rfl g 0 rfl (.slice A' (rs1.length + 1) c') rfl rfl rfl HGC.out (show 0 < 6 by decide) infoSro ?_; intro w5 ha ho; have HZ := Lib.hid (PrgAt.addRowG (x := ⟨A1, c1, [], h⟩) (cs := #[.slice A1 0 c1, .int .u32 (h : Nat)]) HG1.out HCS.out HP.out ⟨HRD.out, HOU.out, hh16, Nat.zero_le _, Nat.zero_le _⟩ HX.out.1 HX.out.2.1 HX.out.2.2 ho ha); clear ha ho HX HGC HN)
      refine hK.out _ _ ?_
      clear hK K
      refine rgDoneC (by kernel_rfl) ?_ _
      go_wp2
      go_ret
      exact ⟨by rw [← HR2.out]; rfl, HT.out.trans HZ.out.2.2 HNX.out.2, fun _ => ⟨_, _, PS.nxt_trans HNX.out HZ.out.2.1 HT.out.size, by rw [← HR2.out]; show PrgAt _ _ _ (rowV p1 []) _; rw [rowV_eq HHE.out]; exact HZ.out.1⟩⟩
    | cons x r =>
      obtain ⟨b, off, rfl, -⟩ := HRD.out (by simp)
      obtain ⟨N, hN⟩ : ∃ N, N = (x :: r).length := ⟨_, rfl⟩
      rw [← hN] at hcap hgk ⊢
      subst hgk
      have hN1 : N = r.length + 1 := hN
      have hN0 : 0 < N := by omega
      have hNz : ¬ N = 0 := by omega
      have hx0 := HWA.out x (by simp)
      have hx1 : x.length ≤ 1000000 := by omega
      have hr := HR.out
      rw [firstW] at hr
      obtain ⟨H, hH⟩ : ∃ H, hasC x = H := ⟨_, rfl⟩
      rw [hH] at hr
      have HH := Lib.hid hH
      have k0 : wr.cell? ⟨b, off, none⟩ = some (.string (bs x)) := rdw_head HRD.out
      clear hH HR
      cases H with
      | true =>
        rw [if_pos rfl] at hr
        have hy0 := trimC_le x
        obtain ⟨y, hy⟩ : ∃ y, trimC x = y := ⟨_, rfl⟩
        rw [hy, HHE.out] at hr
        rw [hy] at hy0
        have HTR := Lib.hid hy
        have hy1 : y.length ≤ 1000000 := by omega
        have hl3 := named_len p1 y h
        obtain ⟨⟨E, p2⟩, hE⟩ : ∃ q, namedV p1 y h = q := ⟨_, rfl⟩
        rw [hE] at hr hl3
        have HNM := Lib.hid hE
        have HR := Lib.hid hr
        have hbd := HBD.out
        have hv9 : p1.vals.length ≤ 1000000000 := by omega
        have hn9 : p1.names.length ≤ 1000000000 := by omega
        have HBD2 : Hid (p2.vals.length + r.length ≤ 900090000 ∧ p2.names.length + r.length ≤ 900090000 ∧ p2.rows.length ≤ 1000000) := Lib.hid ⟨by have := hl3.1; simp only at this; omega, by have := hl3.2.1; simp only at this; omega, by have := hl3.2.2.2; simp only at this; rw [this]; exact hbd.2.2⟩
        clear hy hE hr hl3 hbd hy0 hx0 HBD
        obtain ⟨off', cap', hsl, hcap2, hrd2⟩ := run_tailS (P := Tryd.prog) 55 Tryd.underlying55 infoS1 b off c1 N x r hN1 hcap .i64
        have HRD2 := Lib.hid hrd2
        have HN := Lib.hid (And.intro hN hN1)
        clear hN hN1 hrd2
        go_upto_region 4 with (go_at_call 38; refine (hasC_any x _ hx1).mono ?_; rw [HH.out]; rintro e w3 ⟨rfl, rfl⟩)
        replace HP := keepP HP (belowD _)
        replace HT := keepT HT (belowD _)
        replace HRD := Lib.hid (HRD.out.below (belowD _))
        refine rgStartC (S := (fun w' => w'.heap[g]? = some (.cells (prgA s1 p1) 68 (0, 0)) ∧ RdW w' (some ⟨b, off, none⟩) (x :: r))) (n := 12) 10 #[false, false, false, false, false, false, false, false, false, false, false, false] (by kernel_rfl) rfl rfl ⟨HG1.out ▸ HP.out.cells, HRD.out⟩ (fun hHeld => ?_)
        refine rgTakeA (i := 0) (N := some 27) (oi := { dst := some 27, op := Op.move (Operand.tmp 0), type := 63, pos := "asm.go:135", after := #[], guard := none }) (v := ?_) #[true, false, false, false, false, false, false, false, false, false, false, false] rfl rfl (by kernel_rfl) (by kernel_rfl) (fun _ _ _ h => h) (Or.inl ⟨by rfl, ?_⟩) (.inr hHeld.out) ?_
        rotate_left
        · intro w' hSw; clear hSw; go_simp; try with_reducible rfl
        simp only [Act.put, List.setIfInBounds_toArray, List.set_cons_zero, List.set_cons_succ]
        refine rgTakeA (i := 1) (N := some 28) (oi := { dst := some 28, op := Op.move (Operand.tmp 5), type := 55, pos := "asm.go:135", after := #[], guard := none }) (v := ?_) #[true, true, false, false, false, false, false, false, false, false, false, false] rfl rfl (by kernel_rfl) (by kernel_rfl) (fun _ _ _ h => h) (Or.inl ⟨by rfl, ?_⟩) (.inr hHeld.out) ?_
        rotate_left
        · intro w' hSw; clear hSw; go_simp; try with_reducible rfl
        simp only [Act.put, List.setIfInBounds_toArray, List.set_cons_zero, List.set_cons_succ]
        refine rgTakeA (i := 2) (N := some 29) (oi := { dst := some 29, op := Op.indexAddr 55 (Operand.tmp 28) (Operand.const (Value.int IntKind.i64 0)), type := 0, pos := "asm.go:135", after := #[{ on := 1, ground := Ground.data }], guard := none }) (v := ?_) #[true, true, true, false, false, false, false, false, false, false, false, false] rfl rfl (by kernel_rfl) (by kernel_rfl) (fun _ _ _ h => h) (Or.inl ⟨by rfl, ?_⟩) (.inr hHeld.out) ?_
        rotate_left
        · intro w' hSw; clear hSw; go_simp; try with_reducible rfl
        simp only [Act.put, List.setIfInBounds_toArray, List.set_cons_zero, List.set_cons_succ]
        refine rgTakeD [4] (i := 3) (N := some 30) (oi := { dst := some 30, op := Op.load 9 (Operand.tmp 29), type := 9, pos := "asm.go:135", after := #[{ on := 2, ground := Ground.data }], guard := none }) (v := ?_) #[true, true, true, true, false, false, false, false, false, false, false, false] rfl rfl (by kernel_rfl) (by kernel_rfl) (fun _ _ _ h => h) (Or.inl ⟨by rfl, ?_⟩) hHeld ?_
        rotate_left
        · intro w' hSw; (try dsimp only at hSw); (have k3 : w'.cell? ⟨g, 3, none⟩ = some (.int .i64 (h : Nat)) := by rw [cell_of_row w' g 3 _ _ _ hSw.1, ← HHE.out]; rfl); have k0 : w'.cell? ⟨b, off, none⟩ = some (.string (bs x)) := rdw_head hSw.2; go_simp; try with_reducible rfl
        simp only [Act.put, List.setIfInBounds_toArray, List.set_cons_zero, List.set_cons_succ]
        refine rgTakeA (i := 5) (N := some 32) (oi := { dst := some 32, op := Op.move (Operand.tmp 0), type := 63, pos := "asm.go:135", after := #[], guard := none }) (v := ?_) #[true, true, true, true, false, true, false, false, false, false, false, false] rfl rfl (by kernel_rfl) (by kernel_rfl) (fun _ _ _ h => h) (Or.inl ⟨by rfl, ?_⟩) (.inr hHeld.out) ?_
        rotate_left
        · intro w' hSw; clear hSw; go_simp; try with_reducible rfl
        simp only [Act.put, List.setIfInBounds_toArray, List.set_cons_zero, List.set_cons_succ]
        refine rgTakeA (i := 6) (N := some 33) (oi := { dst := some 33, op := Op.nilCheck (Operand.tmp 32), type := 0, pos := "asm.go:135", after := #[{ on := 5, ground := Ground.data }], guard := none }) (v := ?_) #[true, true, true, true, false, true, true, false, false, false, false, false] rfl rfl (by kernel_rfl) (by kernel_rfl) (fun _ _ _ h => h) (Or.inl ⟨by rfl, ?_⟩) (.inr hHeld.out) ?_
        rotate_left
        · intro w' hSw; clear hSw; go_simp; try with_reducible rfl
        simp only [Act.put, List.setIfInBounds_toArray, List.set_cons_zero, List.set_cons_succ]
        refine rgTakeA (i := 7) (N := some 34) (oi := { dst := some 34, op := Op.fieldAddr 68 (Operand.tmp 33) 3, type := 0, pos := "asm.go:135", after := #[{ on := 6, ground := Ground.data }], guard := none }) (v := ?_) #[true, true, true, true, false, true, true, true, false, false, false, false] rfl rfl (by kernel_rfl) (by kernel_rfl) (fun _ _ _ h => h) (Or.inl ⟨by rfl, ?_⟩) (.inr hHeld.out) ?_
        rotate_left
        · intro w' hSw; clear hSw; go_simp; try with_reducible rfl
        simp only [Act.put, List.setIfInBounds_toArray, List.set_cons_zero, List.set_cons_succ]
        refine rgTakeD [9] (i := 8) (N := some 35) (oi := { dst := some 35, op := Op.load 2 (Operand.tmp 34), type := 2, pos := "asm.go:135", after := #[{ on := 7, ground := Ground.data }], guard := none }) (v := ?_) #[true, true, true, true, false, true, true, true, true, false, false, false] rfl rfl (by kernel_rfl) (by kernel_rfl) (fun _ _ _ h => h) (Or.inl ⟨by rfl, ?_⟩) hHeld ?_
        rotate_left
        · intro w' hSw; (try dsimp only at hSw); (have k3 : w'.cell? ⟨g, 3, none⟩ = some (.int .i64 (h : Nat)) := by rw [cell_of_row w' g 3 _ _ _ hSw.1, ← HHE.out]; rfl); have k0 : w'.cell? ⟨b, off, none⟩ = some (.string (bs x)) := rdw_head hSw.2; go_simp; try with_reducible rfl
        simp only [Act.put, List.setIfInBounds_toArray, List.set_cons_zero, List.set_cons_succ]
        refine rgTakeA (i := 9) (N := some 36) (oi := { dst := some 36, op := Op.convert 2 25 (Operand.tmp 35), type := 25, pos := "asm.go:135", after := #[{ on := 8, ground := Ground.data }], guard := none }) (v := ?_) #[true, true, true, true, false, true, true, true, true, true, false, false] rfl rfl (by kernel_rfl) (by kernel_rfl) (fun _ _ _ h => h) (Or.inl ⟨by rfl, ?_⟩) (.inr hHeld.out) ?_
        rotate_left
        · intro w' hSw; clear hSw; go_simp; try with_reducible rfl
        simp only [Act.put, List.setIfInBounds_toArray, List.set_cons_zero, List.set_cons_succ]
        refine rgCallD (i := 4) (N := some 31) (oi := { dst := some 31, op := Op.call { callee := Callee.value (Operand.func 40), args := #[Operand.tmp 30, Operand.const (Value.string { data := #[58] })], argTypes := #[9, 9] }, type := 9, pos := "asm.go:135", after := #[{ on := 3, ground := Ground.data }], guard := none }) #[true, true, true, true, true, true, true, true, true, true, false, false] rfl rfl (by kernel_rfl) (fun K hK => ?_)
        go_simp
        (go_at_call 40; refine (trimC_any x _ hx1).mono ?_; rw [HTR.out]; rintro e w3 ⟨rfl, rfl⟩)
        refine hK.out _ _ hHeld.out (fun hHeld => ?_)
        (try simp only [Act.put, List.setIfInBounds_toArray, List.set_cons_zero, List.set_cons_succ])
        clear hK K
        refine rgCallC (i := 10) (N := some 37) (oi := { dst := some 37, op := Op.call { callee := Callee.value (Operand.func 39), args := #[Operand.tmp 27, Operand.tmp 31, Operand.tmp 36], argTypes := #[63, 9, 25] }, type := 26, pos := "asm.go:135", after := #[{ on := 0, ground := Ground.data }, { on := 4, ground := Ground.data }, { on := 9, ground := Ground.data }, { on := 4, ground := Ground.chain }], guard := none }) #[true, true, true, true, true, true, true, true, true, true, true, false] rfl rfl (by kernel_rfl) (by rfl) (fun K hK => ?_)
        go_simp
        (go_at_call 39; refine (named_at B s1 p1 rs1 y h _ HG1.out HP.out hy1 hh32 hv9 hn9).mono ?_; rw [HNM.out]; intro e w4 hq; have HQ := Lib.hid hq; obtain ⟨rfl, -, -⟩ := hq; clear hHeld)
        refine hK.out _ _ ?_
        (try simp only [Act.put, List.setIfInBounds_toArray, List.set_cons_zero, List.set_cons_succ])
        clear hK K
        refine rgTakeA (i := 11) (N := some 6) (oi := { dst := some 6, op := Op.assign (Operand.tmp 37), type := 26, pos := "asm.go:135", after := #[{ on := 10, ground := Ground.data }, { on := 10, ground := Ground.chain }, { on := 0, ground := Ground.phase }, { on := 1, ground := Ground.phase }, { on := 2, ground := Ground.phase }, { on := 3, ground := Ground.phase }, { on := 4, ground := Ground.phase }, { on := 5, ground := Ground.phase }, { on := 6, ground := Ground.phase }, { on := 7, ground := Ground.phase }, { on := 8, ground := Ground.phase }, { on := 9, ground := Ground.phase }, { on := 10, ground := Ground.phase }], guard := none }) (v := ?_) #[true, true, true, true, true, true, true, true, true, true, true, true] rfl rfl (by kernel_rfl) (by kernel_rfl) (fun _ _ _ h => h) (Or.inl ⟨by rfl, ?_⟩) (.inl (by rfl)) ?_
        rotate_left
        · intro w' hSw; clear hSw; go_simp; try with_reducible rfl
        simp only [Act.put, List.setIfInBounds_toArray, List.set_cons_zero, List.set_cons_succ]
        refine rgDoneC (by kernel_rfl) ?_ _
        by_cases hE0 : E = 0
        · subst hE0
          obtain ⟨s2, rs2, hn2, hp2⟩ := HQ.out.2.2 rfl
          have HR2 : Hid (firstW p2 r = R) := Lib.hid (by have := HR.out; rw [if_pos rfl] at this; exact this)
          have HRD3 := Lib.hid (HRD2.out _ (HRD.out.turn HQ.out.2.1 HOU.out))
          have HOU2 : Hid (Out (some ⟨b, off', none⟩) r.length s2.ms) := Lib.hid (fun a ha _ => by
            have h1 := HOU.out.next HRD.out.lt hn2.2
            injection ha with ha
            subst ha
            exact h1 ⟨b, off, none⟩ rfl (by simp))
          have HT2 : Hid (Turn s.ms w w4) := Lib.hid (HT.out.trans HQ.out.2.1 HNX.out.2)
          have HNX2 : Hid (s.nxt w s2) := Lib.hid (PS.nxt_trans HNX.out hn2 HT.out.size)
          have HP2 := Lib.hid hp2
          have HWA2 : Hid (∀ y ∈ r, 1 ≤ y.length ∧ y.length ≤ 90000) := Lib.hid (fun y hy => HWA.out y (List.mem_cons_of_mem _ hy))
          clear HQ hn2 hp2 HP HT HNX HRD HOU HRD2 HR HWA
          go_wp2_with (refine slRd (by rfl) _ _ _ rfl b off c1 N off' r.length cap' rfl .i64 rfl hsl ?_)
          go_roundg r.length
          case rel => exact ⟨s2, p2, rs2, _, cap', r, rfl, rfl, by have := HN.out.2; omega, hcap2, HBD2, HWA2, HR2, HP2, HRD3, HOU2, HT2, HNX2⟩
          case measure => have := HN.out.2; omega
        · have HR2 : Hid ((E, p2) = R) := Lib.hid (by have := HR.out; rw [if_neg hE0] at this; exact this)
          have hE1 : ((E : Int) != 0) = true := bne_iff_ne.2 (by omega)
          go_wp2
          go_ret
          exact ⟨by rw [← HR2.out]; rfl, HT.out.trans HQ.out.2.1 HNX.out.2, fun q => absurd (by rw [← HR2.out] at q; exact q) hE0⟩
      | false =>
        rw [if_neg (by simp)] at hr
        have HR := Lib.hid hr
        have HWL : Hid (r.length ≤ 90000) := Lib.hid (by omega)
        have HNN := Lib.hid (And.intro hN hN1)
        have HCS : Hid (rowA ⟨some ⟨b, off, none⟩, c1, x :: r, h⟩ = #[.slice (some ⟨b, off, none⟩) N c1, .int .u32 (h : Nat)]) := Lib.hid (by unfold rowA; rw [hN])
        have hrl : rs1.length ≤ 1000000 := by have h1 := HP.out.prow; have h2 := HBD.out.2.2; rw [h1, List.length_map] at h2; exact h2
        have hx10 := hx0.1
        have HBD2 := HBD
        have HWA2 : Hid (∀ y ∈ r, 1 ≤ y.length ∧ y.length ≤ 90000) := Lib.hid (fun y hy => HWA.out y (List.mem_cons_of_mem _ hy))
        clear hr HBD HWA hN hN1 hx0
        go_upto_region 8 with (go_at_call 38; refine (hasC_any x _ hx1).mono ?_; rw [HH.out]; rintro e w3 ⟨rfl, rfl⟩)
        replace HP := keepP HP (belowD _)
        replace HT := keepT HT (belowD _)
        replace HRD := Lib.hid (HRD.out.below (belowD _))
        clear k0
        refine rgStartC (S := (fun w' => w'.heap[g]? = some (.cells (prgA s1 p1) 68 (0, 0)))) (n := 17) 13 #[false, false, false, false, false, false, false, false, false, false, false, false, false, false, false, false, false] (by kernel_rfl) rfl rfl (HG1.out ▸ HP.out.cells) (fun hHeld => ?_)
        refine rgTakeA (i := 0) (N := some 43) (oi := { dst := some 43, op := Op.move (Operand.tmp 0), type := 63, pos := "asm.go:140", after := #[], guard := none }) (v := ?_) #[true, false, false, false, false, false, false, false, false, false, false, false, false, false, false, false, false] rfl rfl (by kernel_rfl) (by kernel_rfl) (fun _ _ _ h => h) (Or.inl ⟨by rfl, ?_⟩) (.inr hHeld.out) ?_
        rotate_left
        · intro w' hSw; clear hSw; go_simp; try with_reducible rfl
        simp only [Act.put, List.setIfInBounds_toArray, List.set_cons_zero, List.set_cons_succ]
        refine rgTakeA (i := 1) (N := some 44) (oi := { dst := some 44, op := Op.move (Operand.tmp 0), type := 63, pos := "asm.go:140", after := #[], guard := none }) (v := ?_) #[true, true, false, false, false, false, false, false, false, false, false, false, false, false, false, false, false] rfl rfl (by kernel_rfl) (by kernel_rfl) (fun _ _ _ h => h) (Or.inl ⟨by rfl, ?_⟩) (.inr hHeld.out) ?_
        rotate_left
        · intro w' hSw; clear hSw; go_simp; try with_reducible rfl
        simp only [Act.put, List.setIfInBounds_toArray, List.set_cons_zero, List.set_cons_succ]
        refine rgTakeA (i := 2) (N := some 45) (oi := { dst := some 45, op := Op.nilCheck (Operand.tmp 44), type := 0, pos := "asm.go:140", after := #[{ on := 1, ground := Ground.data }], guard := none }) (v := ?_) #[true, true, true, false, false, false, false, false, false, false, false, false, false, false, false, false, false] rfl rfl (by kernel_rfl) (by kernel_rfl) (fun _ _ _ h => h) (Or.inl ⟨by rfl, ?_⟩) (.inr hHeld.out) ?_
        rotate_left
        · intro w' hSw; clear hSw; go_simp; try with_reducible rfl
        simp only [Act.put, List.setIfInBounds_toArray, List.set_cons_zero, List.set_cons_succ]
        refine rgTakeA (i := 3) (N := some 46) (oi := { dst := some 46, op := Op.fieldAddr 68 (Operand.tmp 45) 0, type := 0, pos := "asm.go:140", after := #[{ on := 2, ground := Ground.data }], guard := none }) (v := ?_) #[true, true, true, true, false, false, false, false, false, false, false, false, false, false, false, false, false] rfl rfl (by kernel_rfl) (by kernel_rfl) (fun _ _ _ h => h) (Or.inl ⟨by rfl, ?_⟩) (.inr hHeld.out) ?_
        rotate_left
        · intro w' hSw; clear hSw; go_simp; try with_reducible rfl
        simp only [Act.put, List.setIfInBounds_toArray, List.set_cons_zero, List.set_cons_succ]
        refine rgTakeS (i := 4) (N := some 47) (oi := { dst := some 47, op := Op.load 66 (Operand.tmp 46), type := 66, pos := "asm.go:140", after := #[{ on := 3, ground := Ground.data }], guard := none }) (v := ?_) #[true, true, true, true, true, false, false, false, false, false, false, false, false, false, false, false, false] rfl rfl (by kernel_rfl) (by kernel_rfl) (fun _ _ _ h => h) (Or.inl ⟨by rfl, ?_⟩) hHeld ?_
        rotate_left
        · intro w' hSw; (try dsimp only at hSw); (have k3 : w'.cell? ⟨g, 3, none⟩ = some (.int .i64 (h : Nat)) := by rw [cell_of_row w' g 3 _ _ _ hSw, ← HHE.out]; rfl); have k0 : w'.cell? ⟨g, 0, none⟩ = some s1.rv := cell_of_row w' g 0 _ _ _ hSw; go_simp; try with_reducible rfl
        simp only [Act.put, List.setIfInBounds_toArray, List.set_cons_zero, List.set_cons_succ]
        refine rgTakeA (i := 5) (N := some 48) (oi := { dst := some 48, op := Op.move (Operand.tmp 5), type := 55, pos := "asm.go:140", after := #[], guard := none }) (v := ?_) #[true, true, true, true, true, true, false, false, false, false, false, false, false, false, false, false, false] rfl rfl (by kernel_rfl) (by kernel_rfl) (fun _ _ _ h => h) (Or.inl ⟨by rfl, ?_⟩) (.inr hHeld.out) ?_
        rotate_left
        · intro w' hSw; clear hSw; go_simp; try with_reducible rfl
        simp only [Act.put, List.setIfInBounds_toArray, List.set_cons_zero, List.set_cons_succ]
        refine rgTakeA (i := 6) (N := some 49) (oi := { dst := some 49, op := Op.move (Operand.tmp 0), type := 63, pos := "asm.go:140", after := #[], guard := none }) (v := ?_) #[true, true, true, true, true, true, true, false, false, false, false, false, false, false, false, false, false] rfl rfl (by kernel_rfl) (by kernel_rfl) (fun _ _ _ h => h) (Or.inl ⟨by rfl, ?_⟩) (.inr hHeld.out) ?_
        rotate_left
        · intro w' hSw; clear hSw; go_simp; try with_reducible rfl
        simp only [Act.put, List.setIfInBounds_toArray, List.set_cons_zero, List.set_cons_succ]
        refine rgTakeA (i := 7) (N := some 50) (oi := { dst := some 50, op := Op.nilCheck (Operand.tmp 49), type := 0, pos := "asm.go:140", after := #[{ on := 6, ground := Ground.data }], guard := none }) (v := ?_) #[true, true, true, true, true, true, true, true, false, false, false, false, false, false, false, false, false] rfl rfl (by kernel_rfl) (by kernel_rfl) (fun _ _ _ h => h) (Or.inl ⟨by rfl, ?_⟩) (.inr hHeld.out) ?_
        rotate_left
        · intro w' hSw; clear hSw; go_simp; try with_reducible rfl
        simp only [Act.put, List.setIfInBounds_toArray, List.set_cons_zero, List.set_cons_succ]
        refine rgTakeA (i := 8) (N := some 51) (oi := { dst := some 51, op := Op.fieldAddr 68 (Operand.tmp 50) 3, type := 0, pos := "asm.go:140", after := #[{ on := 7, ground := Ground.data }], guard := none }) (v := ?_) #[true, true, true, true, true, true, true, true, true, false, false, false, false, false, false, false, false] rfl rfl (by kernel_rfl) (by kernel_rfl) (fun _ _ _ h => h) (Or.inl ⟨by rfl, ?_⟩) (.inr hHeld.out) ?_
        rotate_left
        · intro w' hSw; clear hSw; go_simp; try with_reducible rfl
        simp only [Act.put, List.setIfInBounds_toArray, List.set_cons_zero, List.set_cons_succ]
        refine rgTakeD [10, 11, 12] (i := 9) (N := some 52) (oi := { dst := some 52, op := Op.load 2 (Operand.tmp 51), type := 2, pos := "asm.go:140", after := #[{ on := 8, ground := Ground.data }], guard := none }) (v := ?_) #[true, true, true, true, true, true, true, true, true, true, false, false, false, false, false, false, false] rfl rfl (by kernel_rfl) (by kernel_rfl) (fun _ _ _ h => h) (Or.inl ⟨by rfl, ?_⟩) hHeld ?_
        rotate_left
        · intro w' hSw; (try dsimp only at hSw); (have k3 : w'.cell? ⟨g, 3, none⟩ = some (.int .i64 (h : Nat)) := by rw [cell_of_row w' g 3 _ _ _ hSw, ← HHE.out]; rfl); have k0 : w'.cell? ⟨g, 0, none⟩ = some s1.rv := cell_of_row w' g 0 _ _ _ hSw; go_simp; try with_reducible rfl
        simp only [Act.put, List.setIfInBounds_toArray, List.set_cons_zero, List.set_cons_succ]
        refine rgTakeA (i := 10) (N := some 53) (oi := { dst := some 53, op := Op.convert 2 25 (Operand.tmp 52), type := 25, pos := "asm.go:140", after := #[{ on := 9, ground := Ground.data }], guard := none }) (v := ?_) #[true, true, true, true, true, true, true, true, true, true, true, false, false, false, false, false, false] rfl rfl (by kernel_rfl) (by kernel_rfl) (fun _ _ _ h => h) (Or.inl ⟨by rfl, ?_⟩) (.inr hHeld.out) ?_
        rotate_left
        · intro w' hSw; clear hSw; go_simp; try with_reducible rfl
        simp only [Act.put, List.setIfInBounds_toArray, List.set_cons_zero, List.set_cons_succ]
        refine rgTakeA (i := 11) (N := some 54) (oi := { dst := some 54, op := Op.build 71 #[(0, Operand.tmp 48), (1, Operand.tmp 53)], type := 71, pos := "asm.go:140", after := #[{ on := 5, ground := Ground.data }, { on := 10, ground := Ground.data }], guard := none }) (v := ?_) #[true, true, true, true, true, true, true, true, true, true, true, true, false, false, false, false, false] rfl rfl (by kernel_rfl) (by kernel_rfl) (fun _ _ _ h => h) (Or.inl ⟨by rfl, ?_⟩) (.inr hHeld.out) ?_
        rotate_left
        · intro w' hSw; clear hSw; go_simp; try with_reducible rfl
        simp only [Act.put, List.setIfInBounds_toArray, List.set_cons_zero, List.set_cons_succ]
        refine rgCallD (i := 12) (N := some 55) (oi := { dst := some 55, op := Op.buildSlice 66 1 #[(0, Operand.tmp 54)], type := 66, pos := "asm.go:140", after := #[{ on := 11, ground := Ground.data }], guard := none }) #[true, true, true, true, true, true, true, true, true, true, true, true, true, false, false, false, false] rfl rfl (by kernel_rfl) (fun K hK => ?_)
        (refine rgLit (by rfl) 66 1 _ rfl #[.slice (some ⟨b, off, none⟩) N c1, .int .u32 (h : Nat)] 71 (fun _ => by kernel_rfl) ?_; intro gN w3 hg1 hg2 ha hb; replace HP := keepP HP hb; replace HT := keepT HT hb; replace HRD := Lib.hid (HRD.out.below hb); have HN := Lib.hid ha; clear ha hb hg1 hg2)
        refine hK.out _ _ (HG1.out ▸ HP.out.cells) (fun hHeld => ?_)
        (try simp only [Act.put, List.setIfInBounds_toArray, List.set_cons_zero, List.set_cons_succ])
        clear hK K
        refine rgCallC (i := 13) (N := some 56) (oi := { dst := some 56, op := Op.call { callee := Callee.builtin Builtin.append, args := #[Operand.tmp 47, Operand.tmp 55], argTypes := #[66, 66] }, type := 66, pos := "asm.go:140", after := #[{ on := 4, ground := Ground.data }, { on := 12, ground := Ground.data }], guard := none }) #[true, true, true, true, true, true, true, true, true, true, true, true, true, true, false, false, false] rfl rfl (by kernel_rfl) (by rfl) (fun K hK => ?_)
        (refine rgAppRow (by rfl) _ _ 66 71 (.agg #[.slice none 0 0, .int .u32 0]) 2 32 rfl Tryd.underlying66 infoRo rfl (by decide) B s1.rv rs1.length (rowsC rs1) rfl HP.out.rows #[.slice (some ⟨b, off, none⟩) N c1, .int .u32 (h : Nat)] rfl (by simp [Value.oneCell']) gN 1 rfl HN.out (by unfold maxLen; omega) (by omega) (Nat.le_trans (HP.out.ge _ s1.mem_P) (Nat.le_of_lt (HP.out.lt _ s1.mem_P))) ?_; intro v' w4 hown hgr hv; obtain ⟨A', c', rfl⟩ := own_valk hown; have HGC := Lib.hid (HP.out.grownCells HG1.out hgr); have HX := Lib.hid (And.intro hgr (And.intro hv hown)); clear hgr hv hown hHeld)
        refine hK.out _ _ ?_
        (try simp only [Act.put, List.setIfInBounds_toArray, List.set_cons_zero, List.set_cons_succ])
        clear hK K
        refine rgTakeA (i := 14) (N := some 57) (oi := { dst := some 57, op := Op.nilCheck (Operand.tmp 43), type := 0, pos := "asm.go:140", after := #[{ on := 0, ground := Ground.data }, { on := 0, ground := Ground.phase }, { on := 1, ground := Ground.phase }, { on := 2, ground := Ground.phase }, { on := 3, ground := Ground.phase }, { on := 4, ground := Ground.phase }, { on := 5, ground := Ground.phase }, { on := 6, ground := Ground.phase }, { on := 7, ground := Ground.phase }, { on := 8, ground := Ground.phase }, { on := 9, ground := Ground.phase }, { on := 10, ground := Ground.phase }, { on := 11, ground := Ground.phase }, { on := 12, ground := Ground.phase }, { on := 13, ground := Ground.phase }], guard := none }) (v := ?_) #[true, true, true, true, true, true, true, true, true, true, true, true, true, true, true, false, false] rfl rfl (by kernel_rfl) (by kernel_rfl) (fun _ _ _ h => h) (Or.inl ⟨by rfl, ?_⟩) (.inl (by rfl)) ?_
        rotate_left
        · intro w' hSw; clear hSw; go_simp; try with_reducible rfl
        simp only [Act.put, List.setIfInBounds_toArray, List.set_cons_zero, List.set_cons_succ]
        refine rgTakeA (i := 15) (N := some 58) (oi := { dst := some 58, op := Op.fieldAddr 68 (Operand.tmp 57) 0, type := 0, pos := "asm.go:140", after := #[{ on := 14, ground := Ground.data }, { on := 0, ground := Ground.phase }, { on := 1, ground := Ground.phase }, { on := 2, ground := Ground.phase }, { on := 3, ground := Ground.phase }, { on := 4, ground := Ground.phase }, { on := 5, ground := Ground.phase }, { on := 6, ground := Ground.phase }, { on := 7, ground := Ground.phase }, { on := 8, ground := Ground.phase }, { on := 9, ground := Ground.phase }, { on := 10, ground := Ground.phase }, { on := 11, ground := Ground.phase }, { on := 12, ground := Ground.phase }, { on := 13, ground := Ground.phase }], guard := none }) (v := ?_) #[true, true, true, true, true, true, true, true, true, true, true, true, true, true, true, true, false] rfl rfl (by kernel_rfl) (by kernel_rfl) (fun _ _ _ h => h) (Or.inl ⟨by rfl, ?_⟩) (.inl (by rfl)) ?_
        rotate_left
        · intro w' hSw; clear hSw; go_simp; try with_reducible rfl
        simp only [Act.put, List.setIfInBounds_toArray, List.set_cons_zero, List.set_cons_succ]
        refine rgCallC (i := 16) (N := none) (oi := { dst := none, op := Op.store 66 (Operand.tmp 58) (Operand.tmp 56), type := 0, pos := "asm.go:140", after := #[{ on := 15, ground := Ground.data }, { on := 13, ground := Ground.data }, { on := 13, ground := Ground.chain }, { on := 0, ground := Ground.phase }, { on := 1, ground := Ground.phase }, { on := 2, ground := Ground.phase }, { on := 3, ground := Ground.phase }, { on := 4, ground := Ground.phase }, { on := 5, ground := Ground.phase }, { on := 6, ground := Ground.phase }, { on := 7, ground := Ground.phase }, { on := 8, ground := Ground.phase }, { on := 9, ground := Ground.phase }, { on := 10, ground := Ground.phase }, { on := 11, ground := Ground.phase }, { on := 12, ground := Ground.phase }, { on := 13, ground := Ground.phase }], guard := none }) #[true, true, true, true, true, true, true, true, true, true, true, true, true, true, true, true, true] rfl rfl (by kernel_rfl) (by rfl) (fun K hK => ?_)
        (refine rgCell (by rfl) 66 _ _ rfl g 0 rfl (.slice A' (rs1.length + 1) c') rfl rfl rfl HGC.out (show 0 < 6 by decide) infoSro ?_; intro w5 ha ho; have HZ := Lib.hid (PrgAt.addRowG (x := ⟨some ⟨b, off, none⟩, c1, x :: r, h⟩) (cs := #[.slice (some ⟨b, off, none⟩) N c1, .int .u32 (h : Nat)]) HG1.out HCS.out HP.out ⟨HRD.out, HOU.out, hh16, (by rw [← HNN.out.1]; exact hcap), (by have := HNN.out.1; show (x :: r).length ≤ 100000; omega)⟩ HX.out.1 HX.out.2.1 HX.out.2.2 ho ha); clear ha ho HX HGC HN)
        refine hK.out _ _ ?_
        clear hK K
        refine rgDoneC (by kernel_rfl) ?_ _
        obtain ⟨s2, rs2, p2, hp2, hT2, hn2, hg2, hpe⟩ : ∃ (s2 : PS) (rs2 : List RowM) (p2 : Prg), PrgAt w5 B s2 p2 rs2 ∧ Turn s.ms w w5 ∧ s.nxt w s2 ∧ s2.gP = g ∧ rowV p1 (x :: r) = p2 :=
          ⟨_, _, _, by rw [rowV_eq HHE.out]; exact HZ.out.1, HT.out.trans HZ.out.2.2 HNX.out.2, PS.nxt_trans HNX.out HZ.out.2.1 HT.out.size, HG1.out, rfl⟩
        have HRD2 := Lib.hid (HRD.out.turn HZ.out.2.2 HOU.out)
        have HR2 : Hid ((if x.head? = some 46 then dirV p2 (dirK x) r else layV p2 4 true) = R) := Lib.hid (by rw [← hpe]; exact HR.out)
        have HV2 : Hid (p2.vals.length ≤ 1000000000 ∧ p2.names.length ≤ 1000000000) := Lib.hid (by have h1 := HBD2.out; rw [← hpe]; exact ⟨show p1.vals.length ≤ _ by omega, show p1.names.length ≤ _ by omega⟩)
        clear HP HT HNX HRD HOU HZ HR HH HCS HHE HG1 hrl hpe HBD2
        have HP := Lib.hid hp2
        have HT := Lib.hid hT2
        have HNX := Lib.hid hn2
        have HG2 := Lib.hid hg2
        have HWA := HWA2
        have k0 : w5.cell? ⟨b, off, none⟩ = some (.string (bs x)) := rdw_head HRD2.out
        clear hp2 hT2 hn2 hg2 HWA2
        obtain ⟨c0, hc0, hc1⟩ : ∃ c0 : UInt8, bAt (bs x) 0 = c0.toNat ∧ x.head? = some c0 := by
          cases x with
          | nil => exact absurd hx10 (by decide)
          | cons c t => exact ⟨c, rfl, rfl⟩
        obtain ⟨cn, hcn⟩ : ∃ n : Nat, c0.toNat = n := ⟨_, rfl⟩
        rw [hcn] at hc0
        have hsz : 0 < (bs x).size := by rw [bs_size]; omega
        by_cases hdot : cn = 46
        · have hc46 : c0 = 46 := UInt8.toNat_inj.1 (hcn.trans hdot)
          rw [hc46] at hc1
          have HR : Hid (dirV p2 (dirK x) r = R) := Lib.hid (by have h1 := HR2.out; rw [if_pos hc1] at h1; exact h1)
          subst hdot
          clear hcn hc46 hc1 HR2
          have hk5 := dirK_le x
          obtain ⟨k, hk⟩ : ∃ k, dirK x = k := ⟨_, rfl⟩
          rw [hk] at HR hk5
          have HK := Lib.hid hk
          clear hk
          go_upto_region 15 with (first | (refine strIndex (by rfl) _ _ _ rfl Tryd.underlying9 (bs x) rfl _ _ rfl 0 _ rfl hsz hc0 ?_) | (go_at_call 42; refine (dir_any g x _).mono ?_; rw [HK.out]; rintro e w6 ⟨⟨gB, rfl, hgB, hbx⟩, hb⟩; replace HP := keepP HP hb; replace HT := keepT HT hb; replace HRD2 := Lib.hid (HRD2.out.below hb); have HX := Lib.hid hbx; clear k0; have k0 : w6.cell? ⟨b, off, none⟩ = some (.string (bs x)) := rdw_head HRD2.out; clear hbx hb hgB) | (refine wlAlloc (by rfl) 103 rfl #[.int .i64 0, .int .i64 0, .nilFunc] zeroDi ?_; intro gR w7 hg hl ha hb; have HB : Hid (Below w6.heap.size w6 w7 ∧ w6.heap.size ≤ w7.heap.size) := Lib.hid ⟨hb, hb.size⟩; have HGR := Lib.hid hg; have HRR := Lib.hid ha; clear hg hl ha hb) | (refine rowStore (by rfl) 103 _ _ rfl gR rfl (dirA k gB) rfl HRR.out (dir_info _ _) (dir_sz _ _ _ _ _) (dir_one _ _) ?_; intro w8 ha ho; replace HRR := Lib.hid ha; replace HB := keepBo HB HGR.out ho; replace HP := keepP HP HB.out.1; replace HT := keepT HT HB.out.1; replace HRD2 := Lib.hid (HRD2.out.below HB.out.1); replace HX := keepA HX HB.out.1; clear ha ho HB HGR))
          have cL : w8.cell? ⟨gR, 0, none⟩ = some (.int .i64 (dirL k)) := cell_of_row _ gR 0 _ _ _ HRR.out
          have cM : w8.cell? ⟨gR, 1, none⟩ = some (.int .i64 (dirM k)) := cell_of_row _ gR 1 _ _ _ HRR.out
          by_cases h0 : k = 0
          · have HR3 : Hid ((2, p2) = R) := Lib.hid (by rw [← HR.out, dirV_wrong hk5 (.inl h0)])
            subst h0
            clear HR
            go_wp2
            go_ret
            exact codeV (c := 2) (by rw [← HR3.out]) (by decide) HT.out
          have hb0 : (k != 0) = true := bne_iff_ne.2 h0
          by_cases hlk : (r.length : Int) < dirL k
          · have HR3 : Hid ((2, p2) = R) := Lib.hid (by rw [← HR.out, dirV_wrong hk5 (.inr (.inl hlk))])
            have q2 : (N : Int) - 1 < dirL k := by have := HNN.out.2; omega
            clear HR hlk
            go_wp2
            go_ret
            exact codeV (c := 2) (by rw [← HR3.out]) (by decide) HT.out
          by_cases hmk : 0 ≤ dirM k ∧ dirM k < r.length
          · have HR3 : Hid ((2, p2) = R) := Lib.hid (by rw [← HR.out, dirV_wrong hk5 (.inr (.inr hmk))])
            have q2 : ¬ (N : Int) - 1 < dirL k := by have := HNN.out.2; omega
            have q3 : dirM k < (N : Int) - 1 := by have := HNN.out.2; omega
            have q4 := hmk.1
            clear HR hlk hmk
            go_wp2
            go_ret
            exact codeV (c := 2) (by rw [← HR3.out]) (by decide) HT.out
          obtain ⟨off', cap', hsl0, hcap2, hrd2⟩ := run_tailS (P := Tryd.prog) 55 Tryd.underlying55 infoS1 b off c1 N x r HNN.out.2 hcap .i64
          have HRD3 := Lib.hid (hrd2 _ HRD2.out)
          clear hrd2 hb0
          rcases (show k = 1 ∨ k = 2 ∨ k = 3 ∨ k = 4 ∨ k = 5 by omega) with rfl | rfl | rfl | rfl | rfl
          · obtain ⟨y, rfl⟩ : ∃ y, r = [y] := by
              have h1 : r.length = 1 := by simp [dirL, dirM] at hlk hmk; omega
              exact List.length_eq_one_iff.1 h1
            have hN2 : N = 2 := HNN.out.2
            subst hN2
            replace cL : w8.cell? ⟨gR, 0, none⟩ = some (.int .i64 1) := cL
            replace cM : w8.cell? ⟨gR, 1, none⟩ = some (.int .i64 (1)) := cM
            have hsl : ∀ w, (Instr.sliceAt 55 (.slice (some ⟨b, off, none⟩) 2 c1) (some (.int .i64 1)) none none).run Tryd.prog w = .ok (.slice (some ⟨b, off', none⟩) 1 cap') w := hsl0
            have HA : Hid (ArgsAt w8.drew s2 gB b off' [y]) := Lib.hid ⟨by rw [HG2.out]; exact HX.out, (HRD3.out.below (belowD w8)), fun y hy => by have := HWA.out y hy; omega⟩
            have HR3 : Hid (orgV p2 y = R) := HR
            clear hsl0 HR HK k0 hlk hmk
            go_upto_region 17 with fail
            replace HP := keepP HP (belowD _)
            replace HT := keepT HT (belowD _)
            refine rgStartC (S := (fun w' => w'.heap[gR]? = some (.cells (dirA 1 gB) 103 (0, 0)))) (n := 6) 4 #[false, false, false, false, false, false] (by kernel_rfl) rfl rfl HRR.out (fun hHeld => ?_)
            refine rgTakeA (i := 0) (N := some 99) (oi := { dst := some 99, op := Op.fieldAddr 103 (Operand.tmp 7) 2, type := 0, pos := "asm.go:151", after := #[], guard := none }) (v := ?_) #[true, false, false, false, false, false] rfl rfl (by kernel_rfl) (by kernel_rfl) (fun _ _ _ h => h) (Or.inl ⟨by rfl, ?_⟩) (.inr hHeld.out) ?_
            rotate_left
            · intro w' hSw; clear hSw; go_simp; try with_reducible rfl
            simp only [Act.put, List.setIfInBounds_toArray, List.set_cons_zero, List.set_cons_succ]
            refine rgTakeS (i := 1) (N := some 100) (oi := { dst := some 100, op := Op.load 101 (Operand.tmp 99), type := 101, pos := "asm.go:151", after := #[{ on := 0, ground := Ground.data }], guard := none }) (v := ?_) #[true, true, false, false, false, false] rfl rfl (by kernel_rfl) (by kernel_rfl) (fun _ _ _ h => h) (Or.inl ⟨by rfl, ?_⟩) hHeld ?_
            rotate_left
            · intro w' hSw; (try dsimp only at hSw); (have k2 : w'.cell? ⟨gR, 2, none⟩ = some (dirF 1 (.pointer (some ⟨gB, 0, none⟩))) := cell_of_row w' gR 2 _ _ _ hSw; simp only [dirF] at k2); go_simp; try with_reducible rfl
            simp only [Act.put, List.setIfInBounds_toArray, List.set_cons_zero, List.set_cons_succ]
            refine rgTakeA (i := 2) (N := some 101) (oi := { dst := some 101, op := Op.move (Operand.tmp 5), type := 55, pos := "asm.go:151", after := #[], guard := none }) (v := ?_) #[true, true, true, false, false, false] rfl rfl (by kernel_rfl) (by kernel_rfl) (fun _ _ _ h => h) (Or.inl ⟨by rfl, ?_⟩) (.inr hHeld.out) ?_
            rotate_left
            · intro w' hSw; clear hSw; go_simp; try with_reducible rfl
            simp only [Act.put, List.setIfInBounds_toArray, List.set_cons_zero, List.set_cons_succ]
            refine rgTakeA (i := 3) (N := some 102) (oi := { dst := some 102, op := Op.slice 55 (Operand.tmp 101) (some (Operand.const (Value.int IntKind.i64 1))) none none, type := 55, pos := "asm.go:151", after := #[{ on := 2, ground := Ground.data }], guard := none }) (v := _) #[true, true, true, true, false, false] rfl rfl (by kernel_rfl) (by kernel_rfl) (fun _ _ _ h => h) (yieldsSl (by rfl) _ _ _ rfl b off c1 2 off' 1 cap' rfl .i64 rfl hsl) (.inr hHeld.out) ?_
            simp only [Act.put, List.setIfInBounds_toArray, List.set_cons_zero, List.set_cons_succ]
            refine rgCallC (i := 4) (N := some 103) (oi := { dst := some 103, op := Op.call { callee := Callee.value (Operand.tmp 100), args := #[Operand.tmp 102], argTypes := #[55] }, type := 26, pos := "asm.go:151", after := #[{ on := 1, ground := Ground.data }, { on := 3, ground := Ground.data }], guard := none }) #[true, true, true, true, true, false] rfl rfl (by kernel_rfl) (by rfl) (fun K hK => ?_)
            (go_simp; go_at_call 57; refine (org_any B s2 p2 rs2 y gB b off' 0 cap' _ HP.out HA.out).mono ?_; rw [HR3.out]; intro e w9 hq; have HQ := Lib.hid (hq.after HT.out HNX.out); obtain ⟨rfl, -, -⟩ := hq; clear hHeld)
            refine hK.out _ _ ?_
            (try simp only [Act.put, List.setIfInBounds_toArray, List.set_cons_zero, List.set_cons_succ])
            clear hK K
            refine rgTakeA (i := 5) (N := some 4) (oi := { dst := some 4, op := Op.assign (Operand.tmp 103), type := 26, pos := "asm.go:151", after := #[{ on := 4, ground := Ground.data }, { on := 4, ground := Ground.chain }, { on := 0, ground := Ground.phase }, { on := 1, ground := Ground.phase }, { on := 2, ground := Ground.phase }, { on := 3, ground := Ground.phase }, { on := 4, ground := Ground.phase }], guard := none }) (v := ?_) #[true, true, true, true, true, true] rfl rfl (by kernel_rfl) (by kernel_rfl) (fun _ _ _ h => h) (Or.inl ⟨by rfl, ?_⟩) (.inl (by rfl)) ?_
            rotate_left
            · intro w' hSw; clear hSw; go_simp; try with_reducible rfl
            simp only [Act.put, List.setIfInBounds_toArray, List.set_cons_zero, List.set_cons_succ]
            refine rgDoneC (by kernel_rfl) ?_ _
            go_wp2
            go_ret
            exact HQ.out
          · obtain ⟨y, rfl⟩ : ∃ y, r = [y] := by
              have h1 : r.length = 1 := by simp [dirL, dirM] at hlk hmk; omega
              exact List.length_eq_one_iff.1 h1
            have hN2 : N = 2 := HNN.out.2
            subst hN2
            replace cL : w8.cell? ⟨gR, 0, none⟩ = some (.int .i64 1) := cL
            replace cM : w8.cell? ⟨gR, 1, none⟩ = some (.int .i64 (1)) := cM
            have hsl : ∀ w, (Instr.sliceAt 55 (.slice (some ⟨b, off, none⟩) 2 c1) (some (.int .i64 1)) none none).run Tryd.prog w = .ok (.slice (some ⟨b, off', none⟩) 1 cap') w := hsl0
            have HA : Hid (ArgsAt w8.drew s2 gB b off' [y]) := Lib.hid ⟨by rw [HG2.out]; exact HX.out, (HRD3.out.below (belowD w8)), fun y hy => by have := HWA.out y hy; omega⟩
            have HR3 : Hid (spaceV p2 y = R) := HR
            clear hsl0 HR HK k0 hlk hmk
            go_upto_region 17 with fail
            replace HP := keepP HP (belowD _)
            replace HT := keepT HT (belowD _)
            refine rgStartC (S := (fun w' => w'.heap[gR]? = some (.cells (dirA 2 gB) 103 (0, 0)))) (n := 6) 4 #[false, false, false, false, false, false] (by kernel_rfl) rfl rfl HRR.out (fun hHeld => ?_)
            refine rgTakeA (i := 0) (N := some 99) (oi := { dst := some 99, op := Op.fieldAddr 103 (Operand.tmp 7) 2, type := 0, pos := "asm.go:151", after := #[], guard := none }) (v := ?_) #[true, false, false, false, false, false] rfl rfl (by kernel_rfl) (by kernel_rfl) (fun _ _ _ h => h) (Or.inl ⟨by rfl, ?_⟩) (.inr hHeld.out) ?_
            rotate_left
            · intro w' hSw; clear hSw; go_simp; try with_reducible rfl
            simp only [Act.put, List.setIfInBounds_toArray, List.set_cons_zero, List.set_cons_succ]
            refine rgTakeS (i := 1) (N := some 100) (oi := { dst := some 100, op := Op.load 101 (Operand.tmp 99), type := 101, pos := "asm.go:151", after := #[{ on := 0, ground := Ground.data }], guard := none }) (v := ?_) #[true, true, false, false, false, false] rfl rfl (by kernel_rfl) (by kernel_rfl) (fun _ _ _ h => h) (Or.inl ⟨by rfl, ?_⟩) hHeld ?_
            rotate_left
            · intro w' hSw; (try dsimp only at hSw); (have k2 : w'.cell? ⟨gR, 2, none⟩ = some (dirF 2 (.pointer (some ⟨gB, 0, none⟩))) := cell_of_row w' gR 2 _ _ _ hSw; simp only [dirF] at k2); go_simp; try with_reducible rfl
            simp only [Act.put, List.setIfInBounds_toArray, List.set_cons_zero, List.set_cons_succ]
            refine rgTakeA (i := 2) (N := some 101) (oi := { dst := some 101, op := Op.move (Operand.tmp 5), type := 55, pos := "asm.go:151", after := #[], guard := none }) (v := ?_) #[true, true, true, false, false, false] rfl rfl (by kernel_rfl) (by kernel_rfl) (fun _ _ _ h => h) (Or.inl ⟨by rfl, ?_⟩) (.inr hHeld.out) ?_
            rotate_left
            · intro w' hSw; clear hSw; go_simp; try with_reducible rfl
            simp only [Act.put, List.setIfInBounds_toArray, List.set_cons_zero, List.set_cons_succ]
            refine rgTakeA (i := 3) (N := some 102) (oi := { dst := some 102, op := Op.slice 55 (Operand.tmp 101) (some (Operand.const (Value.int IntKind.i64 1))) none none, type := 55, pos := "asm.go:151", after := #[{ on := 2, ground := Ground.data }], guard := none }) (v := _) #[true, true, true, true, false, false] rfl rfl (by kernel_rfl) (by kernel_rfl) (fun _ _ _ h => h) (yieldsSl (by rfl) _ _ _ rfl b off c1 2 off' 1 cap' rfl .i64 rfl hsl) (.inr hHeld.out) ?_
            simp only [Act.put, List.setIfInBounds_toArray, List.set_cons_zero, List.set_cons_succ]
            refine rgCallC (i := 4) (N := some 103) (oi := { dst := some 103, op := Op.call { callee := Callee.value (Operand.tmp 100), args := #[Operand.tmp 102], argTypes := #[55] }, type := 26, pos := "asm.go:151", after := #[{ on := 1, ground := Ground.data }, { on := 3, ground := Ground.data }], guard := none }) #[true, true, true, true, true, false] rfl rfl (by kernel_rfl) (by rfl) (fun K hK => ?_)
            (go_simp; go_at_call 59; refine (space_any B s2 p2 rs2 y gB b off' 0 cap' _ HP.out HA.out).mono ?_; rw [HR3.out]; intro e w9 hq; have HQ := Lib.hid (hq.after HT.out HNX.out); obtain ⟨rfl, -, -⟩ := hq; clear hHeld)
            refine hK.out _ _ ?_
            (try simp only [Act.put, List.setIfInBounds_toArray, List.set_cons_zero, List.set_cons_succ])
            clear hK K
            refine rgTakeA (i := 5) (N := some 4) (oi := { dst := some 4, op := Op.assign (Operand.tmp 103), type := 26, pos := "asm.go:151", after := #[{ on := 4, ground := Ground.data }, { on := 4, ground := Ground.chain }, { on := 0, ground := Ground.phase }, { on := 1, ground := Ground.phase }, { on := 2, ground := Ground.phase }, { on := 3, ground := Ground.phase }, { on := 4, ground := Ground.phase }], guard := none }) (v := ?_) #[true, true, true, true, true, true] rfl rfl (by kernel_rfl) (by kernel_rfl) (fun _ _ _ h => h) (Or.inl ⟨by rfl, ?_⟩) (.inl (by rfl)) ?_
            rotate_left
            · intro w' hSw; clear hSw; go_simp; try with_reducible rfl
            simp only [Act.put, List.setIfInBounds_toArray, List.set_cons_zero, List.set_cons_succ]
            refine rgDoneC (by kernel_rfl) ?_ _
            go_wp2
            go_ret
            exact HQ.out
          · obtain ⟨y, z, rfl⟩ : ∃ y z, r = [y, z] := by
              have h1 : r.length = 2 := by simp [dirL, dirM] at hlk hmk; omega
              match r, h1 with | [y, z], _ => exact ⟨y, z, rfl⟩
            have hN2 : N = 3 := HNN.out.2
            subst hN2
            replace cL : w8.cell? ⟨gR, 0, none⟩ = some (.int .i64 2) := cL
            replace cM : w8.cell? ⟨gR, 1, none⟩ = some (.int .i64 (2)) := cM
            have hsl : ∀ w, (Instr.sliceAt 55 (.slice (some ⟨b, off, none⟩) 3 c1) (some (.int .i64 1)) none none).run Tryd.prog w = .ok (.slice (some ⟨b, off', none⟩) 2 cap') w := hsl0
            have HA : Hid (ArgsAt w8.drew s2 gB b off' [y, z]) := Lib.hid ⟨by rw [HG2.out]; exact HX.out, (HRD3.out.below (belowD w8)), fun y hy => by have := HWA.out y hy; omega⟩
            have HR3 : Hid (equV p2 y z = R) := HR
            clear hsl0 HR HK k0 hlk hmk
            go_upto_region 17 with fail
            replace HP := keepP HP (belowD _)
            replace HT := keepT HT (belowD _)
            refine rgStartC (S := (fun w' => w'.heap[gR]? = some (.cells (dirA 3 gB) 103 (0, 0)))) (n := 6) 4 #[false, false, false, false, false, false] (by kernel_rfl) rfl rfl HRR.out (fun hHeld => ?_)
            refine rgTakeA (i := 0) (N := some 99) (oi := { dst := some 99, op := Op.fieldAddr 103 (Operand.tmp 7) 2, type := 0, pos := "asm.go:151", after := #[], guard := none }) (v := ?_) #[true, false, false, false, false, false] rfl rfl (by kernel_rfl) (by kernel_rfl) (fun _ _ _ h => h) (Or.inl ⟨by rfl, ?_⟩) (.inr hHeld.out) ?_
            rotate_left
            · intro w' hSw; clear hSw; go_simp; try with_reducible rfl
            simp only [Act.put, List.setIfInBounds_toArray, List.set_cons_zero, List.set_cons_succ]
            refine rgTakeS (i := 1) (N := some 100) (oi := { dst := some 100, op := Op.load 101 (Operand.tmp 99), type := 101, pos := "asm.go:151", after := #[{ on := 0, ground := Ground.data }], guard := none }) (v := ?_) #[true, true, false, false, false, false] rfl rfl (by kernel_rfl) (by kernel_rfl) (fun _ _ _ h => h) (Or.inl ⟨by rfl, ?_⟩) hHeld ?_
            rotate_left
            · intro w' hSw; (try dsimp only at hSw); (have k2 : w'.cell? ⟨gR, 2, none⟩ = some (dirF 3 (.pointer (some ⟨gB, 0, none⟩))) := cell_of_row w' gR 2 _ _ _ hSw; simp only [dirF] at k2); go_simp; try with_reducible rfl
            simp only [Act.put, List.setIfInBounds_toArray, List.set_cons_zero, List.set_cons_succ]
            refine rgTakeA (i := 2) (N := some 101) (oi := { dst := some 101, op := Op.move (Operand.tmp 5), type := 55, pos := "asm.go:151", after := #[], guard := none }) (v := ?_) #[true, true, true, false, false, false] rfl rfl (by kernel_rfl) (by kernel_rfl) (fun _ _ _ h => h) (Or.inl ⟨by rfl, ?_⟩) (.inr hHeld.out) ?_
            rotate_left
            · intro w' hSw; clear hSw; go_simp; try with_reducible rfl
            simp only [Act.put, List.setIfInBounds_toArray, List.set_cons_zero, List.set_cons_succ]
            refine rgTakeA (i := 3) (N := some 102) (oi := { dst := some 102, op := Op.slice 55 (Operand.tmp 101) (some (Operand.const (Value.int IntKind.i64 1))) none none, type := 55, pos := "asm.go:151", after := #[{ on := 2, ground := Ground.data }], guard := none }) (v := _) #[true, true, true, true, false, false] rfl rfl (by kernel_rfl) (by kernel_rfl) (fun _ _ _ h => h) (yieldsSl (by rfl) _ _ _ rfl b off c1 3 off' 2 cap' rfl .i64 rfl hsl) (.inr hHeld.out) ?_
            simp only [Act.put, List.setIfInBounds_toArray, List.set_cons_zero, List.set_cons_succ]
            refine rgCallC (i := 4) (N := some 103) (oi := { dst := some 103, op := Op.call { callee := Callee.value (Operand.tmp 100), args := #[Operand.tmp 102], argTypes := #[55] }, type := 26, pos := "asm.go:151", after := #[{ on := 1, ground := Ground.data }, { on := 3, ground := Ground.data }], guard := none }) #[true, true, true, true, true, false] rfl rfl (by kernel_rfl) (by rfl) (fun K hK => ?_)
            (go_simp; go_at_call 60; refine (equ_any B s2 p2 rs2 y z gB b off' cap' _ HP.out HA.out HV2.out.1 HV2.out.2).mono ?_; rw [HR3.out]; intro e w9 hq; have HQ := Lib.hid (hq.after HT.out HNX.out); obtain ⟨rfl, -, -⟩ := hq; clear hHeld)
            refine hK.out _ _ ?_
            (try simp only [Act.put, List.setIfInBounds_toArray, List.set_cons_zero, List.set_cons_succ])
            clear hK K
            refine rgTakeA (i := 5) (N := some 4) (oi := { dst := some 4, op := Op.assign (Operand.tmp 103), type := 26, pos := "asm.go:151", after := #[{ on := 4, ground := Ground.data }, { on := 4, ground := Ground.chain }, { on := 0, ground := Ground.phase }, { on := 1, ground := Ground.phase }, { on := 2, ground := Ground.phase }, { on := 3, ground := Ground.phase }, { on := 4, ground := Ground.phase }], guard := none }) (v := ?_) #[true, true, true, true, true, true] rfl rfl (by kernel_rfl) (by kernel_rfl) (fun _ _ _ h => h) (Or.inl ⟨by rfl, ?_⟩) (.inl (by rfl)) ?_
            rotate_left
            · intro w' hSw; clear hSw; go_simp; try with_reducible rfl
            simp only [Act.put, List.setIfInBounds_toArray, List.set_cons_zero, List.set_cons_succ]
            refine rgDoneC (by kernel_rfl) ?_ _
            go_wp2
            go_ret
            exact HQ.out
          · obtain ⟨n, hn⟩ : ∃ n, r.length = n := ⟨_, rfl⟩
            have hn1 : 1 ≤ n := by simp [dirL] at hlk; omega
            have hn9 : n ≤ 90000 := hn ▸ HWL.out
            have q2 : ¬ (N : Int) - 1 < 1 := by have := HNN.out.2; omega
            replace cL : w8.cell? ⟨gR, 0, none⟩ = some (.int .i64 1) := cL
            replace cM : w8.cell? ⟨gR, 1, none⟩ = some (.int .i64 (-1)) := cM
            have hsl : ∀ w, (Instr.sliceAt 55 (.slice (some ⟨b, off, none⟩) N c1) (some (.int .i64 1)) none none).run Tryd.prog w = .ok (.slice (some ⟨b, off', none⟩) n cap') w := by rw [← hn]; exact hsl0
            have HA : Hid (w8.drew.heap[gB]? = some (.cells #[.pointer (some ⟨s2.gP, 0, none⟩)] 63 (0, 0))) := Lib.hid (by rw [HG2.out]; exact HX.out)
            have HR3 : Hid (layV p2 (4 * n) true = R) := Lib.hid (by rw [← HR.out, ← hn]; cases r with | nil => simp at hn; omega | cons y r2 => rfl)
            clear hsl0 HR HK k0 hlk hmk hn
            go_upto_region 17 with fail
            replace HP := keepP HP (belowD _)
            replace HT := keepT HT (belowD _)
            refine rgStartC (S := (fun w' => w'.heap[gR]? = some (.cells (dirA 4 gB) 103 (0, 0)))) (n := 6) 4 #[false, false, false, false, false, false] (by kernel_rfl) rfl rfl HRR.out (fun hHeld => ?_)
            refine rgTakeA (i := 0) (N := some 99) (oi := { dst := some 99, op := Op.fieldAddr 103 (Operand.tmp 7) 2, type := 0, pos := "asm.go:151", after := #[], guard := none }) (v := ?_) #[true, false, false, false, false, false] rfl rfl (by kernel_rfl) (by kernel_rfl) (fun _ _ _ h => h) (Or.inl ⟨by rfl, ?_⟩) (.inr hHeld.out) ?_
            rotate_left
            · intro w' hSw; clear hSw; go_simp; try with_reducible rfl
            simp only [Act.put, List.setIfInBounds_toArray, List.set_cons_zero, List.set_cons_succ]
            refine rgTakeS (i := 1) (N := some 100) (oi := { dst := some 100, op := Op.load 101 (Operand.tmp 99), type := 101, pos := "asm.go:151", after := #[{ on := 0, ground := Ground.data }], guard := none }) (v := ?_) #[true, true, false, false, false, false] rfl rfl (by kernel_rfl) (by kernel_rfl) (fun _ _ _ h => h) (Or.inl ⟨by rfl, ?_⟩) hHeld ?_
            rotate_left
            · intro w' hSw; (try dsimp only at hSw); (have k2 : w'.cell? ⟨gR, 2, none⟩ = some (dirF 4 (.pointer (some ⟨gB, 0, none⟩))) := cell_of_row w' gR 2 _ _ _ hSw; simp only [dirF] at k2); go_simp; try with_reducible rfl
            simp only [Act.put, List.setIfInBounds_toArray, List.set_cons_zero, List.set_cons_succ]
            refine rgTakeA (i := 2) (N := some 101) (oi := { dst := some 101, op := Op.move (Operand.tmp 5), type := 55, pos := "asm.go:151", after := #[], guard := none }) (v := ?_) #[true, true, true, false, false, false] rfl rfl (by kernel_rfl) (by kernel_rfl) (fun _ _ _ h => h) (Or.inl ⟨by rfl, ?_⟩) (.inr hHeld.out) ?_
            rotate_left
            · intro w' hSw; clear hSw; go_simp; try with_reducible rfl
            simp only [Act.put, List.setIfInBounds_toArray, List.set_cons_zero, List.set_cons_succ]
            refine rgTakeA (i := 3) (N := some 102) (oi := { dst := some 102, op := Op.slice 55 (Operand.tmp 101) (some (Operand.const (Value.int IntKind.i64 1))) none none, type := 55, pos := "asm.go:151", after := #[{ on := 2, ground := Ground.data }], guard := none }) (v := _) #[true, true, true, true, false, false] rfl rfl (by kernel_rfl) (by kernel_rfl) (fun _ _ _ h => h) (yieldsSl (by rfl) _ _ _ rfl b off c1 N off' n cap' rfl .i64 rfl hsl) (.inr hHeld.out) ?_
            simp only [Act.put, List.setIfInBounds_toArray, List.set_cons_zero, List.set_cons_succ]
            refine rgCallC (i := 4) (N := some 103) (oi := { dst := some 103, op := Op.call { callee := Callee.value (Operand.tmp 100), args := #[Operand.tmp 102], argTypes := #[55] }, type := 26, pos := "asm.go:151", after := #[{ on := 1, ground := Ground.data }, { on := 3, ground := Ground.data }], guard := none }) #[true, true, true, true, true, false] rfl rfl (by kernel_rfl) (by rfl) (fun K hK => ?_)
            (go_simp; go_at_call 61; refine (word_any B s2 p2 rs2 _ gB n cap' _ HP.out HA.out (by omega)).mono ?_; rw [HR3.out]; intro e w9 hq; have HQ := Lib.hid (hq.after HT.out HNX.out); obtain ⟨rfl, -, -⟩ := hq; clear hHeld)
            refine hK.out _ _ ?_
            (try simp only [Act.put, List.setIfInBounds_toArray, List.set_cons_zero, List.set_cons_succ])
            clear hK K
            refine rgTakeA (i := 5) (N := some 4) (oi := { dst := some 4, op := Op.assign (Operand.tmp 103), type := 26, pos := "asm.go:151", after := #[{ on := 4, ground := Ground.data }, { on := 4, ground := Ground.chain }, { on := 0, ground := Ground.phase }, { on := 1, ground := Ground.phase }, { on := 2, ground := Ground.phase }, { on := 3, ground := Ground.phase }, { on := 4, ground := Ground.phase }], guard := none }) (v := ?_) #[true, true, true, true, true, true] rfl rfl (by kernel_rfl) (by kernel_rfl) (fun _ _ _ h => h) (Or.inl ⟨by rfl, ?_⟩) (.inl (by rfl)) ?_
            rotate_left
            · intro w' hSw; clear hSw; go_simp; try with_reducible rfl
            simp only [Act.put, List.setIfInBounds_toArray, List.set_cons_zero, List.set_cons_succ]
            refine rgDoneC (by kernel_rfl) ?_ _
            go_wp2
            go_ret
            exact HQ.out
          · obtain ⟨n, hn⟩ : ∃ n, r.length = n := ⟨_, rfl⟩
            have hn1 : 1 ≤ n := by simp [dirL] at hlk; omega
            have hn9 : n ≤ 90000 := hn ▸ HWL.out
            have q2 : ¬ (N : Int) - 1 < 1 := by have := HNN.out.2; omega
            replace cL : w8.cell? ⟨gR, 0, none⟩ = some (.int .i64 1) := cL
            replace cM : w8.cell? ⟨gR, 1, none⟩ = some (.int .i64 (-1)) := cM
            have hsl : ∀ w, (Instr.sliceAt 55 (.slice (some ⟨b, off, none⟩) N c1) (some (.int .i64 1)) none none).run Tryd.prog w = .ok (.slice (some ⟨b, off', none⟩) n cap') w := by rw [← hn]; exact hsl0
            have HA : Hid (w8.drew.heap[gB]? = some (.cells #[.pointer (some ⟨s2.gP, 0, none⟩)] 63 (0, 0))) := Lib.hid (by rw [HG2.out]; exact HX.out)
            have HR3 : Hid (layV p2 n false = R) := Lib.hid (by rw [← HR.out, ← hn]; cases r with | nil => simp at hn; omega | cons y r2 => rfl)
            clear hsl0 HR HK k0 hlk hmk hn
            go_upto_region 17 with fail
            replace HP := keepP HP (belowD _)
            replace HT := keepT HT (belowD _)
            refine rgStartC (S := (fun w' => w'.heap[gR]? = some (.cells (dirA 5 gB) 103 (0, 0)))) (n := 6) 4 #[false, false, false, false, false, false] (by kernel_rfl) rfl rfl HRR.out (fun hHeld => ?_)
            refine rgTakeA (i := 0) (N := some 99) (oi := { dst := some 99, op := Op.fieldAddr 103 (Operand.tmp 7) 2, type := 0, pos := "asm.go:151", after := #[], guard := none }) (v := ?_) #[true, false, false, false, false, false] rfl rfl (by kernel_rfl) (by kernel_rfl) (fun _ _ _ h => h) (Or.inl ⟨by rfl, ?_⟩) (.inr hHeld.out) ?_
            rotate_left
            · intro w' hSw; clear hSw; go_simp; try with_reducible rfl
            simp only [Act.put, List.setIfInBounds_toArray, List.set_cons_zero, List.set_cons_succ]
            refine rgTakeS (i := 1) (N := some 100) (oi := { dst := some 100, op := Op.load 101 (Operand.tmp 99), type := 101, pos := "asm.go:151", after := #[{ on := 0, ground := Ground.data }], guard := none }) (v := ?_) #[true, true, false, false, false, false] rfl rfl (by kernel_rfl) (by kernel_rfl) (fun _ _ _ h => h) (Or.inl ⟨by rfl, ?_⟩) hHeld ?_
            rotate_left
            · intro w' hSw; (try dsimp only at hSw); (have k2 : w'.cell? ⟨gR, 2, none⟩ = some (dirF 5 (.pointer (some ⟨gB, 0, none⟩))) := cell_of_row w' gR 2 _ _ _ hSw; simp only [dirF] at k2); go_simp; try with_reducible rfl
            simp only [Act.put, List.setIfInBounds_toArray, List.set_cons_zero, List.set_cons_succ]
            refine rgTakeA (i := 2) (N := some 101) (oi := { dst := some 101, op := Op.move (Operand.tmp 5), type := 55, pos := "asm.go:151", after := #[], guard := none }) (v := ?_) #[true, true, true, false, false, false] rfl rfl (by kernel_rfl) (by kernel_rfl) (fun _ _ _ h => h) (Or.inl ⟨by rfl, ?_⟩) (.inr hHeld.out) ?_
            rotate_left
            · intro w' hSw; clear hSw; go_simp; try with_reducible rfl
            simp only [Act.put, List.setIfInBounds_toArray, List.set_cons_zero, List.set_cons_succ]
            refine rgTakeA (i := 3) (N := some 102) (oi := { dst := some 102, op := Op.slice 55 (Operand.tmp 101) (some (Operand.const (Value.int IntKind.i64 1))) none none, type := 55, pos := "asm.go:151", after := #[{ on := 2, ground := Ground.data }], guard := none }) (v := _) #[true, true, true, true, false, false] rfl rfl (by kernel_rfl) (by kernel_rfl) (fun _ _ _ h => h) (yieldsSl (by rfl) _ _ _ rfl b off c1 N off' n cap' rfl .i64 rfl hsl) (.inr hHeld.out) ?_
            simp only [Act.put, List.setIfInBounds_toArray, List.set_cons_zero, List.set_cons_succ]
            refine rgCallC (i := 4) (N := some 103) (oi := { dst := some 103, op := Op.call { callee := Callee.value (Operand.tmp 100), args := #[Operand.tmp 102], argTypes := #[55] }, type := 26, pos := "asm.go:151", after := #[{ on := 1, ground := Ground.data }, { on := 3, ground := Ground.data }], guard := none }) #[true, true, true, true, true, false] rfl rfl (by kernel_rfl) (by rfl) (fun K hK => ?_)
            (go_simp; go_at_call 62; refine (byte_any B s2 p2 rs2 _ gB n cap' _ HP.out HA.out (by omega)).mono ?_; rw [HR3.out]; intro e w9 hq; have HQ := Lib.hid (hq.after HT.out HNX.out); obtain ⟨rfl, -, -⟩ := hq; clear hHeld)
            refine hK.out _ _ ?_
            (try simp only [Act.put, List.setIfInBounds_toArray, List.set_cons_zero, List.set_cons_succ])
            clear hK K
            refine rgTakeA (i := 5) (N := some 4) (oi := { dst := some 4, op := Op.assign (Operand.tmp 103), type := 26, pos := "asm.go:151", after := #[{ on := 4, ground := Ground.data }, { on := 4, ground := Ground.chain }, { on := 0, ground := Ground.phase }, { on := 1, ground := Ground.phase }, { on := 2, ground := Ground.phase }, { on := 3, ground := Ground.phase }, { on := 4, ground := Ground.phase }], guard := none }) (v := ?_) #[true, true, true, true, true, true] rfl rfl (by kernel_rfl) (by kernel_rfl) (fun _ _ _ h => h) (Or.inl ⟨by rfl, ?_⟩) (.inl (by rfl)) ?_
            rotate_left
            · intro w' hSw; clear hSw; go_simp; try with_reducible rfl
            simp only [Act.put, List.setIfInBounds_toArray, List.set_cons_zero, List.set_cons_succ]
            refine rgDoneC (by kernel_rfl) ?_ _
            go_wp2
            go_ret
            exact HQ.out
        · have hc46 : ¬ x.head? = some 46 := fun q => by rw [hc1] at q; injection q with q; subst q; exact hdot hcn.symm
          have HR : Hid (layV p2 4 true = R) := Lib.hid (by have h1 := HR2.out; rw [if_neg hc46] at h1; exact h1)
          have q1 : ((cn : Int) != 46) = true := bne_iff_ne.2 (by omega)
          clear hcn hc46 hc1 HR2 hdot
          go_wp2_with (first | (refine strIndex (by rfl) _ _ _ rfl Tryd.underlying9 (bs x) rfl _ _ rfl 0 _ rfl hsz hc0 ?_) | (go_at_call 41; refine (lay_at B s2 p2 rs2 4 true _ HG2.out HP.out (by decide)).mono ?_; rw [HR.out]; intro e w9 hq; have HQ := Lib.hid (hq.after HT.out HNX.out); obtain ⟨rfl, -, -⟩ := hq))
          go_ret
          exact HQ.out
end Go.Proofs.YtaclidjhgpkmpaaDoor.My
