/- Walk: places are kept for bytes. -/
import Derived.Test.YtaclidjhgpkmpaaDoorAsmName
set_option linter.unusedVariables false
set_option linter.unusedSimpArgs false
namespace Go.Proofs.YtaclidjhgpkmpaaDoor.My
open Go.RowKit
def anyR (l : List Bool) (h n : Nat) : Bool := ((l.drop h).take n).any id
def setR (l : List Bool) (h : Nat) : Nat → List Bool
  | 0 => l
  | n + 1 => (setR l h n).set (h + n) true
theorem setR_len (l : List Bool) (h : Nat) : ∀ n, (setR l h n).length = l.length
  | 0 => rfl
  | n + 1 => by rw [setR, List.length_set, setR_len l h n]
/-- Places are kept: a code, and the program then. -/
def layV (p : Prg) (n : Nat) (whole : Bool) : Nat × Prg :=
  if (whole = true ∧ p.here % 4 ≠ 0) ∨ 16384 < p.here + n then (3, p) else if anyR p.laid p.here n = true then (7, p) else (0, { p with laid := setR p.laid p.here n, here := p.here + n })
theorem any_step {l : List Bool} {k n : Nat} {b : Bool} (h : l[k]? = some b) : anyR l k (n + 1) = (b || anyR l (k + 1) n) := by
  unfold anyR
  obtain ⟨hk, rfl⟩ := List.getElem?_eq_some_iff.1 h
  rw [List.drop_eq_getElem_cons hk, List.take_succ_cons, List.any_cons]
  rfl
theorem infoBl : (Tryd.prog.info? 4).map (·.size) = some 1 := by kernel_rfl
theorem infoI64 : (Tryd.prog.info? 2).map (·.size) = some 1 := by kernel_rfl
theorem mb_size (l : List Bool) : (mb l).size = l.length := by simp [mb]
theorem mb_get {l : List Bool} {k : Nat} {b : Bool} (h : l[k]? = some b) : (mb l)[k]? = some (.bool b) := by simp [mb, h]
set_option maxRecDepth 100000 in
set_option maxHeartbeats 4000000 in
theorem lay_any (B : Nat) (s : PS) (p : Prg) (rs : List RowM) (n : Nat) (whole : Bool) (w : World) (hp : PrgAt w B s p rs) (hn : n ≤ 1000000) :
    Calls Tryd.prog 41 #[.pointer (some ⟨s.gP, 0, none⟩), .int .i64 (n : Nat), .bool whole] w fun e w' => PrgPost w B s (layV p n whole) e w' := by
  have HP := Lib.hid hp
  have hll := hp.ll
  have hh16 := hp.here
  obtain ⟨h, hh⟩ : ∃ h, p.here = h := ⟨_, rfl⟩
  have i3 : w.cell? ⟨s.gP, 3, none⟩ = some (.int .i64 (h : Nat)) := by rw [cell_of_row w s.gP 3 _ _ _ hp.cells, ← hh]; rfl
  have i5 : w.cell? ⟨s.gP, 5, none⟩ = some (slF s.gL) := cell_of_row w s.gP 5 _ _ _ hp.cells
  obtain ⟨R, hR⟩ : ∃ R, layV p n whole = R := ⟨_, rfl⟩
  rw [hR]
  unfold layV at hR
  rw [hh] at hR hh16
  by_cases h1 : whole = true ∧ h % 4 ≠ 0
  · rw [if_pos (.inl h1)] at hR
    have HR := Lib.hid hR
    obtain ⟨rfl, h4⟩ := h1
    have q1 : ((h : Int) % 4 != 0) = true := bne_iff_ne.2 (by omega)
    clear hR hp h4 hll hh
    go_enter Tryd.func41, Tryd.ntmps41
    go_wp2
    go_ret
    exact codeV (by rw [← HR.out]) (by decide) (Turn.refl _ _)
  by_cases h2 : 16384 < h + n
  · rw [if_pos (.inr h2)] at hR
    have HR := Lib.hid hR
    have h2' : 16384 - (h : Int) < (n : Int) := by omega
    clear hR hp hll hh
    cases whole with
    | true =>
      have q1 : ((h : Int) % 4 != 0) = false := by
        by_cases q : h % 4 = 0
        · exact bne_eq_false_iff_eq.2 (by omega)
        · exact absurd ⟨rfl, q⟩ h1
      clear h1
      go_enter Tryd.func41, Tryd.ntmps41
      go_wp2
      go_ret
      exact codeV (by rw [← HR.out]) (by decide) (Turn.refl _ _)
    | false =>
      clear h1
      go_enter Tryd.func41, Tryd.ntmps41
      go_wp2
      go_ret
      exact codeV (by rw [← HR.out]) (by decide) (Turn.refl _ _)
  rw [if_neg (by rintro (q | q); exact h1 q; exact h2 q)] at hR
  have h2' : ¬ 16384 - (h : Int) < (n : Int) := by omega
  have hle : h + n ≤ 16384 := by omega
  obtain ⟨A, hA⟩ : ∃ A, anyR p.laid h n = A := ⟨_, rfl⟩
  rw [hA] at hR
  have HR := Lib.hid hR
  have HA0 : Hid (anyR p.laid h (h + n - h) = A) := Lib.hid (by rw [show h + n - h = n by omega]; exact hA)
  have HH := Lib.hid hh
  have HLL := Lib.hid hll
  have q1 : whole = true → ((h : Int) % 4 != 0) = false := fun hw => by
    by_cases q : h % 4 = 0
    · exact bne_eq_false_iff_eq.2 (by omega)
    · exact absurd ⟨hw, q⟩ h1
  clear hR hp hA hll hh h1 h2
  cases whole with
  | true =>
    have q2 := q1 rfl
    clear q1
    go_enter Tryd.func41, Tryd.ntmps41
    go_wp2
    go_loop [7] (fun i => ∃ k : Nat, h ≤ k ∧ k ≤ h + n ∧ i = .int .i64 k ∧ Hid (anyR p.laid k (h + n - k) = A)) (fun i => h + n - (intOf i).toNat)
    case atStart => exact ⟨h, Nat.le_refl _, by omega, rfl, HA0⟩
    case round =>
      clear HA0
      obtain ⟨k, hk1, hk2, rfl, HA⟩ := hrel
      by_cases hlt : k < h + n
      · obtain ⟨b, hb⟩ : ∃ b, p.laid[k]? = some b := ⟨_, List.getElem?_eq_getElem (by rw [HLL.out]; omega)⟩
        have c0 : w.cell? ⟨s.gL, k, none⟩ = some (.bool b) := (cell_of_row w s.gL k _ _ _ HP.out.laid).trans (mb_get hb)
        have ha := HA.out
        rw [show h + n - k = (h + n - (k + 1)) + 1 by omega, any_step hb] at ha
        have hk16 : k < 16384 := by omega
        clear HA hb
        cases b with
        | true =>
          have ha2 : true = A := ha
          subst ha2
          clear ha
          go_wp2
          go_ret
          exact codeV (by rw [← HR.out]; rfl) (by decide) (Turn.refl _ _)
        | false =>
          have HA := Lib.hid (show anyR p.laid (k + 1) (h + n - (k + 1)) = A from ha)
          clear ha
          go_wp2
          go_round
          case rel => exact ⟨k + 1, by omega, by omega, by go_num, HA⟩
          case measure => simp [intOf]; omega
      · obtain rfl : k = h + n := by omega
        have ha := HA.out
        rw [Nat.sub_self] at ha
        have ha2 : false = A := by rw [← ha]; unfold anyR; simp
        have HR2 : Hid ((0, { p with laid := setR p.laid h n, here := h + n }) = R) := Lib.hid (by have := HR.out; rw [← ha2, if_neg (by decide)] at this; exact this)
        have HP0 : Hid (PrgAt w B s { p with laid := setR p.laid h (h - h) } rs) := Lib.hid (by rw [Nat.sub_self]; exact HP.out)
        have HT0 : Hid (Turn s.ms w w) := Lib.hid (Turn.refl _ _)
        clear ha ha2 HA HR hlt hk1 hk2 HP
        go_wp2
        clear i3 i5
        go_loopw [8] (fun i wr => ∃ k : Nat, h ≤ k ∧ k ≤ h + n ∧ i = .int .i64 k ∧ Hid (PrgAt wr B s { p with laid := setR p.laid h (k - h) } rs) ∧ Hid (Turn s.ms w wr)) (fun i _ => h + n - (intOf i).toNat)
        case atStart => exact ⟨h, Nat.le_refl _, by omega, rfl, HP0, HT0⟩
        case round =>
          clear HP0 HT0
          obtain ⟨k, hk1, hk2, rfl, HP, HT⟩ := hrel
          have i3 : wr.cell? ⟨s.gP, 3, none⟩ = some (.int .i64 (h : Nat)) := (cell_of_row wr s.gP 3 _ _ _ HP.out.cells).trans (by rw [← HH.out]; rfl)
          have i5 : wr.cell? ⟨s.gP, 5, none⟩ = some (slF s.gL) := cell_of_row wr s.gP 5 _ _ _ HP.out.cells
          by_cases hlt : k < h + n
          · have hk16 : k < 16384 := by omega
            go_wp2_with (first | (refine cellStore rfl 4 _ _ rfl s.gL k rfl (.bool true) rfl rfl rfl HP.out.laid (by rw [mb_size, HP.out.ll]; omega) infoBl ?_; intro w2 ha ho; replace HT := keepTo HT (.inl s.mem_L) ho; replace HP := Lib.hid (HP.out.setLaid ho ha); clear ha ho))
            go_roundw
            case rel => exact ⟨k + 1, by omega, by omega, by go_num, Lib.hid (by
              have e : setR p.laid h (k + 1 - h) = (setR p.laid h (k - h)).set k true := by
                rw [show k + 1 - h = (k - h) + 1 by omega, setR, show h + (k - h) = k by omega]
              rw [e]; exact HP.out), HT⟩
            case measure => simp [intOf]; omega
          · obtain rfl : k = h + n := by omega
            go_wp2_with (first | (refine cellStore rfl 2 _ _ rfl s.gP 3 rfl (.int .i64 ((h + n : Nat) : Int)) rfl rfl rfl HP.out.cells (show 3 < 6 by decide) infoI64 ?_; intro w2 ha ho; replace HT := keepTo HT (.inl s.mem_P) ho; replace HP := Lib.hid (HP.out.setHere (n := h + n) ho hle ha); clear ha ho))
            go_ret
            exact ⟨by rw [← HR2.out]; rfl, HT.out, fun _ => ⟨s, rs, PS.nxt_refl _ _, by
              rw [← HR2.out]
              have := HP.out
              rw [show h + n - h = n by omega] at this
              exact this⟩⟩
  | false =>
    clear q1
    go_enter Tryd.func41, Tryd.ntmps41
    go_wp2
    go_loop [7] (fun i => ∃ k : Nat, h ≤ k ∧ k ≤ h + n ∧ i = .int .i64 k ∧ Hid (anyR p.laid k (h + n - k) = A)) (fun i => h + n - (intOf i).toNat)
    case atStart => exact ⟨h, Nat.le_refl _, by omega, rfl, HA0⟩
    case round =>
      clear HA0
      obtain ⟨k, hk1, hk2, rfl, HA⟩ := hrel
      by_cases hlt : k < h + n
      · obtain ⟨b, hb⟩ : ∃ b, p.laid[k]? = some b := ⟨_, List.getElem?_eq_getElem (by rw [HLL.out]; omega)⟩
        have c0 : w.cell? ⟨s.gL, k, none⟩ = some (.bool b) := (cell_of_row w s.gL k _ _ _ HP.out.laid).trans (mb_get hb)
        have ha := HA.out
        rw [show h + n - k = (h + n - (k + 1)) + 1 by omega, any_step hb] at ha
        have hk16 : k < 16384 := by omega
        clear HA hb
        cases b with
        | true =>
          have ha2 : true = A := ha
          subst ha2
          clear ha
          go_wp2
          go_ret
          exact codeV (by rw [← HR.out]; rfl) (by decide) (Turn.refl _ _)
        | false =>
          have HA := Lib.hid (show anyR p.laid (k + 1) (h + n - (k + 1)) = A from ha)
          clear ha
          go_wp2
          go_round
          case rel => exact ⟨k + 1, by omega, by omega, by go_num, HA⟩
          case measure => simp [intOf]; omega
      · obtain rfl : k = h + n := by omega
        have ha := HA.out
        rw [Nat.sub_self] at ha
        have ha2 : false = A := by rw [← ha]; unfold anyR; simp
        have HR2 : Hid ((0, { p with laid := setR p.laid h n, here := h + n }) = R) := Lib.hid (by have := HR.out; rw [← ha2, if_neg (by decide)] at this; exact this)
        have HP0 : Hid (PrgAt w B s { p with laid := setR p.laid h (h - h) } rs) := Lib.hid (by rw [Nat.sub_self]; exact HP.out)
        have HT0 : Hid (Turn s.ms w w) := Lib.hid (Turn.refl _ _)
        clear ha ha2 HA HR hlt hk1 hk2 HP
        go_wp2
        clear i3 i5
        go_loopw [8] (fun i wr => ∃ k : Nat, h ≤ k ∧ k ≤ h + n ∧ i = .int .i64 k ∧ Hid (PrgAt wr B s { p with laid := setR p.laid h (k - h) } rs) ∧ Hid (Turn s.ms w wr)) (fun i _ => h + n - (intOf i).toNat)
        case atStart => exact ⟨h, Nat.le_refl _, by omega, rfl, HP0, HT0⟩
        case round =>
          clear HP0 HT0
          obtain ⟨k, hk1, hk2, rfl, HP, HT⟩ := hrel
          have i3 : wr.cell? ⟨s.gP, 3, none⟩ = some (.int .i64 (h : Nat)) := (cell_of_row wr s.gP 3 _ _ _ HP.out.cells).trans (by rw [← HH.out]; rfl)
          have i5 : wr.cell? ⟨s.gP, 5, none⟩ = some (slF s.gL) := cell_of_row wr s.gP 5 _ _ _ HP.out.cells
          by_cases hlt : k < h + n
          · have hk16 : k < 16384 := by omega
            go_wp2_with (first | (refine cellStore rfl 4 _ _ rfl s.gL k rfl (.bool true) rfl rfl rfl HP.out.laid (by rw [mb_size, HP.out.ll]; omega) infoBl ?_; intro w2 ha ho; replace HT := keepTo HT (.inl s.mem_L) ho; replace HP := Lib.hid (HP.out.setLaid ho ha); clear ha ho))
            go_roundw
            case rel => exact ⟨k + 1, by omega, by omega, by go_num, Lib.hid (by
              have e : setR p.laid h (k + 1 - h) = (setR p.laid h (k - h)).set k true := by
                rw [show k + 1 - h = (k - h) + 1 by omega, setR, show h + (k - h) = k by omega]
              rw [e]; exact HP.out), HT⟩
            case measure => simp [intOf]; omega
          · obtain rfl : k = h + n := by omega
            go_wp2_with (first | (refine cellStore rfl 2 _ _ rfl s.gP 3 rfl (.int .i64 ((h + n : Nat) : Int)) rfl rfl rfl HP.out.cells (show 3 < 6 by decide) infoI64 ?_; intro w2 ha ho; replace HT := keepTo HT (.inl s.mem_P) ho; replace HP := Lib.hid (HP.out.setHere (n := h + n) ho hle ha); clear ha ho))
            go_ret
            exact ⟨by rw [← HR2.out]; rfl, HT.out, fun _ => ⟨s, rs, PS.nxt_refl _ _, by
              rw [← HR2.out]
              have := HP.out
              rw [show h + n - h = n by omega] at this
              exact this⟩⟩
end Go.Proofs.YtaclidjhgpkmpaaDoor.My
