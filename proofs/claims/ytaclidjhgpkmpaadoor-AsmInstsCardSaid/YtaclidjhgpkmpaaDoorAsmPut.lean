/- Walk: bytes are put where they were laid. -/
import Derived.Test.YtaclidjhgpkmpaaDoorAsmFirst0
set_option linter.unusedVariables false
set_option linter.unusedSimpArgs false
namespace Go.Proofs.YtaclidjhgpkmpaaDoor.My
open Go.RowKit
/-- Bytes of a value, put from a place on. -/
def putV (l : List UInt8) (i v : Nat) : Nat → List UInt8
  | 0 => l
  | n + 1 => (putV l i v n).set (i + n) (UInt8.ofNat (v / 256 ^ n))
theorem putV_len (l : List UInt8) (i v : Nat) : ∀ n, (putV l i v n).length = l.length
  | 0 => rfl
  | n + 1 => by rw [putV, List.length_set, putV_len l i v n]
theorem ofNat_int (x : Nat) : ((UInt8.ofNat x).toNat : Int) = (x : Int) % 256 := by
  rw [UInt8.toNat_ofNat']
  omega
theorem sizeU8 (w : World) : (sizeOf 5).run Tryd.prog w = .ok 1 w := by kernel_rfl
theorem shrW (v k V : Nat) (hk : k = 0 ∨ k = 1 ∨ k = 2 ∨ k = 3) (c : Int) (hc : c = 8 * (k : Int)) (hV : v / 256 ^ k = V) (w : World) : (Op.shift .shr .u32 (v : Int) .i64 (IntKind.i64.wrap c)).run Tryd.prog w = .ok (.int .u32 (V : Int)) w := by
  subst hV
  have h : (Op.shift .shr .u32 (v : Int) .i64 (8 * k : Int)).run Tryd.prog w = .ok (.int .u32 ((v / 256 ^ k : Nat) : Int)) w := by rcases hk with rfl | rfl | rfl | rfl <;> simp
  have e : IntKind.i64.wrap c = 8 * (k : Int) := by subst hc; rcases hk with rfl | rfl | rfl | rfl <;> decide
  rw [e]
  exact h
/-- Only the data of a program have turned. -/
structure DataTo (w w' : World) (B : Nat) (s : PS) (p : Prg) (rs : List RowM) (d : List UInt8) : Prop where
  pa : PrgAt w' B s { p with data := d } rs
  tu : Turn [s.gD] w w'
theorem keepDP {w w' : World} {B : Nat} {s : PS} {p : Prg} {rs : List RowM} (h : Hid (PrgAt w B s p rs)) (hb : Below w.heap.size w w') : Hid (PrgAt w' B s p rs) := h.out.below hb
set_option maxRecDepth 100000 in
set_option maxHeartbeats 8000000 in
theorem put_any {g : Nat} (B : Nat) (s : PS) (p : Prg) (rs : List RowM) (i v n : Nat) (w : World) (hg : s.gP = g) (hp : PrgAt w B s p rs) (hn : n = 1 ∨ n = 4) (hi : i + n ≤ 16384) (hv : v < 4294967296) :
    Calls Tryd.prog 63 #[.pointer (some ⟨g, 0, none⟩), .int .i64 (i : Nat), .int .u32 (v : Nat), .int .i64 (n : Nat)] w fun e w' => e = .returned (.tuple #[]) ∧ DataTo w w' B s p rs (putV p.data i v n) := by
  have HG := Lib.hid hg
  have HP : Hid (PrgAt w B s { p with data := putV p.data i v 0 } rs) := Lib.hid hp
  have HT : Hid (Turn [s.gD] w w) := Lib.hid (Turn.refl _ _)
  clear hg hp
  go_enter Tryd.func63, Tryd.ntmps63
  go_wp2
  go_loopg [10] n (fun gk j wr => ∃ k : Nat, j = .int .i64 (k : Nat) ∧ k + gk = n ∧ Hid (PrgAt wr B s { p with data := putV p.data i v k } rs) ∧ Hid (Turn [s.gD] w wr))
  case atStart => exact ⟨0, rfl, by omega, HP, HT⟩
  case round =>
    clear HP HT
    obtain ⟨k, rfl, hk, HP, HT⟩ := hrel
    have HK := Lib.hid hk
    clear hk
    by_cases hlt : k < n
    · have hk4 : k = 0 ∨ k = 1 ∨ k = 2 ∨ k = 3 := by omega
      obtain ⟨q, hq⟩ : ∃ q, i + k = q := ⟨_, rfl⟩
      have hq16 : q < 16384 := by omega
      obtain ⟨D, hD⟩ : ∃ D, putV p.data i v k = D := ⟨_, rfl⟩
      obtain ⟨b, hb⟩ : ∃ b, UInt8.ofNat (v / 256 ^ k) = b := ⟨_, rfl⟩
      have HD2 : Hid (putV p.data i v (k + 1) = D.set q b) := Lib.hid (by rw [putV, hD, hb, hq])
      rw [hD] at HP
      obtain ⟨V, hV⟩ : ∃ V, v / 256 ^ k = V := ⟨_, rfl⟩
      obtain ⟨c, hc⟩ : ∃ c : Int, c = 8 * (k : Int) := ⟨_, rfl⟩
      have hsh := shrW v k V hk4 c hc hV
      have hwb : IntKind.u8.wrap (V : Int) = (b.toNat : Int) := by rw [← hb, ofNat_int, IntKind.wrap_u8, hV]
      obtain ⟨z, hz⟩ : ∃ z : Int, z = (i : Int) + (k : Int) := ⟨_, rfl⟩
      have hwq : IntKind.i64.wrap z = (q : Int) := by rw [hz, IntKind.wrap_i64]; omega
      clear hb hD
      clear hV hq
      rcases hk4 with rfl | rfl | rfl | rfl
      all_goals
        simp only [Int.cast_ofNat_Int, Int.reduceMul, Int.mul_zero, Int.mul_one, Int.add_zero] at hc hz
        subst hc hz
        go_upto_region 3 with fail
        replace HP := keepDP HP (belowD _)
        replace HT := keepT HT (belowD _)
        refine rgStart (S := (fun w' => w'.heap[g]? = some (.cells (prgA s { p with data := D }) 68 (0, 0)))) (n := 14) #[false, false, false, false, false, false, false, false, false, false, false, false, false, false] (by kernel_rfl) rfl rfl (HG.out ▸ HP.out.cells) (fun hHeld => ?_)
        refine rgTake (i := 0) (N := some 13) (oi := { dst := some 13, op := Op.move (Operand.tmp 0), type := 63, pos := "asm.go:183", after := #[], guard := none }) (v := ?_) #[true, false, false, false, false, false, false, false, false, false, false, false, false, false] rfl rfl (by kernel_rfl) (fun _ _ _ h => h) (Or.inl ⟨by rfl, ?_⟩) hHeld ?_
        rotate_left
        · intro w' hSw; (try dsimp only at hSw); (have k4 : w'.cell? ⟨g, 4, none⟩ = some (slF s.gD) := cell_of_row w' g 4 _ _ _ hSw); go_simp; try with_reducible rfl
        simp only [Act.put, List.setIfInBounds_toArray, List.set_cons_zero, List.set_cons_succ]
        refine rgTake (i := 1) (N := some 14) (oi := { dst := some 14, op := Op.nilCheck (Operand.tmp 13), type := 0, pos := "asm.go:183", after := #[{ on := 0, ground := Ground.data }], guard := none }) (v := ?_) #[true, true, false, false, false, false, false, false, false, false, false, false, false, false] rfl rfl (by kernel_rfl) (fun _ _ _ h => h) (Or.inl ⟨by rfl, ?_⟩) hHeld ?_
        rotate_left
        · intro w' hSw; (try dsimp only at hSw); (have k4 : w'.cell? ⟨g, 4, none⟩ = some (slF s.gD) := cell_of_row w' g 4 _ _ _ hSw); go_simp; try with_reducible rfl
        simp only [Act.put, List.setIfInBounds_toArray, List.set_cons_zero, List.set_cons_succ]
        refine rgTake (i := 2) (N := some 15) (oi := { dst := some 15, op := Op.fieldAddr 68 (Operand.tmp 14) 4, type := 0, pos := "asm.go:183", after := #[{ on := 1, ground := Ground.data }], guard := none }) (v := ?_) #[true, true, true, false, false, false, false, false, false, false, false, false, false, false] rfl rfl (by kernel_rfl) (fun _ _ _ h => h) (Or.inl ⟨by rfl, ?_⟩) hHeld ?_
        rotate_left
        · intro w' hSw; (try dsimp only at hSw); (have k4 : w'.cell? ⟨g, 4, none⟩ = some (slF s.gD) := cell_of_row w' g 4 _ _ _ hSw); go_simp; try with_reducible rfl
        simp only [Act.put, List.setIfInBounds_toArray, List.set_cons_zero, List.set_cons_succ]
        refine rgTake (i := 3) (N := some 16) (oi := { dst := some 16, op := Op.load 38 (Operand.tmp 15), type := 38, pos := "asm.go:183", after := #[{ on := 2, ground := Ground.data }], guard := none }) (v := ?_) #[true, true, true, true, false, false, false, false, false, false, false, false, false, false] rfl rfl (by kernel_rfl) (fun _ _ _ h => h) (Or.inl ⟨by rfl, ?_⟩) hHeld ?_
        rotate_left
        · intro w' hSw; (try dsimp only at hSw); (have k4 : w'.cell? ⟨g, 4, none⟩ = some (slF s.gD) := cell_of_row w' g 4 _ _ _ hSw); go_simp; try with_reducible rfl
        simp only [Act.put, List.setIfInBounds_toArray, List.set_cons_zero, List.set_cons_succ]
        refine rgTake (i := 4) (N := some 17) (oi := { dst := some 17, op := Op.move (Operand.tmp 1), type := 3, pos := "asm.go:183", after := #[], guard := none }) (v := ?_) #[true, true, true, true, true, false, false, false, false, false, false, false, false, false] rfl rfl (by kernel_rfl) (fun _ _ _ h => h) (Or.inl ⟨by rfl, ?_⟩) hHeld ?_
        rotate_left
        · intro w' hSw; (try dsimp only at hSw); (have k4 : w'.cell? ⟨g, 4, none⟩ = some (slF s.gD) := cell_of_row w' g 4 _ _ _ hSw); go_simp; try with_reducible rfl
        simp only [Act.put, List.setIfInBounds_toArray, List.set_cons_zero, List.set_cons_succ]
        refine rgTake (i := 5) (N := some 18) (oi := { dst := some 18, op := Op.move (Operand.tmp 8), type := 3, pos := "asm.go:183", after := #[], guard := none }) (v := ?_) #[true, true, true, true, true, true, false, false, false, false, false, false, false, false] rfl rfl (by kernel_rfl) (fun _ _ _ h => h) (Or.inl ⟨by rfl, ?_⟩) hHeld ?_
        rotate_left
        · intro w' hSw; (try dsimp only at hSw); (have k4 : w'.cell? ⟨g, 4, none⟩ = some (slF s.gD) := cell_of_row w' g 4 _ _ _ hSw); go_simp; try with_reducible rfl
        simp only [Act.put, List.setIfInBounds_toArray, List.set_cons_zero, List.set_cons_succ]
        refine rgTake (i := 6) (N := some 19) (oi := { dst := some 19, op := Op.binOp BinOp.add 3 (Operand.tmp 17) (Operand.tmp 18) 3, type := 3, pos := "asm.go:183", after := #[{ on := 4, ground := Ground.data }, { on := 5, ground := Ground.data }], guard := none }) (v := ?_) #[true, true, true, true, true, true, true, false, false, false, false, false, false, false] rfl rfl (by kernel_rfl) (fun _ _ _ h => h) (Or.inl ⟨by rfl, ?_⟩) hHeld ?_
        rotate_left
        · intro w' hSw; (try dsimp only at hSw); (have k4 : w'.cell? ⟨g, 4, none⟩ = some (slF s.gD) := cell_of_row w' g 4 _ _ _ hSw); go_simp; try with_reducible rfl
        simp only [Act.put, List.setIfInBounds_toArray, List.set_cons_zero, List.set_cons_succ]
        refine rgTake (i := 7) (N := some 20) (oi := { dst := some 20, op := Op.move (Operand.tmp 2), type := 25, pos := "asm.go:183", after := #[], guard := none }) (v := ?_) #[true, true, true, true, true, true, true, true, false, false, false, false, false, false] rfl rfl (by kernel_rfl) (fun _ _ _ h => h) (Or.inl ⟨by rfl, ?_⟩) hHeld ?_
        rotate_left
        · intro w' hSw; (try dsimp only at hSw); (have k4 : w'.cell? ⟨g, 4, none⟩ = some (slF s.gD) := cell_of_row w' g 4 _ _ _ hSw); go_simp; try with_reducible rfl
        simp only [Act.put, List.setIfInBounds_toArray, List.set_cons_zero, List.set_cons_succ]
        refine rgTake (i := 8) (N := some 21) (oi := { dst := some 21, op := Op.move (Operand.tmp 8), type := 3, pos := "asm.go:183", after := #[], guard := none }) (v := ?_) #[true, true, true, true, true, true, true, true, true, false, false, false, false, false] rfl rfl (by kernel_rfl) (fun _ _ _ h => h) (Or.inl ⟨by rfl, ?_⟩) hHeld ?_
        rotate_left
        · intro w' hSw; (try dsimp only at hSw); (have k4 : w'.cell? ⟨g, 4, none⟩ = some (slF s.gD) := cell_of_row w' g 4 _ _ _ hSw); go_simp; try with_reducible rfl
        simp only [Act.put, List.setIfInBounds_toArray, List.set_cons_zero, List.set_cons_succ]
        refine rgTake (i := 9) (N := some 22) (oi := { dst := some 22, op := Op.binOp BinOp.mul 3 (Operand.const (Value.int IntKind.i64 8)) (Operand.tmp 21) 3, type := 3, pos := "asm.go:183", after := #[{ on := 8, ground := Ground.data }], guard := none }) (v := ?_) #[true, true, true, true, true, true, true, true, true, true, false, false, false, false] rfl rfl (by kernel_rfl) (fun _ _ _ h => h) (Or.inl ⟨by rfl, ?_⟩) hHeld ?_
        rotate_left
        · intro w' hSw; (try dsimp only at hSw); (have k4 : w'.cell? ⟨g, 4, none⟩ = some (slF s.gD) := cell_of_row w' g 4 _ _ _ hSw); go_simp; try with_reducible rfl
        simp only [Act.put, List.setIfInBounds_toArray, List.set_cons_zero, List.set_cons_succ]
        refine rgTake (i := 10) (N := some 23) (oi := { dst := some 23, op := Op.binOp BinOp.shr 25 (Operand.tmp 20) (Operand.tmp 22) 3, type := 25, pos := "asm.go:183", after := #[{ on := 7, ground := Ground.data }, { on := 9, ground := Ground.data }], guard := none }) (v := ?_) #[true, true, true, true, true, true, true, true, true, true, true, false, false, false] rfl rfl (by kernel_rfl) (fun _ _ _ h => h) (Or.inl ⟨by rfl, ?_⟩) hHeld ?_
        rotate_left
        · intro w' hSw; (try dsimp only at hSw); (have k4 : w'.cell? ⟨g, 4, none⟩ = some (slF s.gD) := cell_of_row w' g 4 _ _ _ hSw); go_simp; try with_reducible rfl
        simp only [Act.put, List.setIfInBounds_toArray, List.set_cons_zero, List.set_cons_succ]
        refine rgTake (i := 11) (N := some 24) (oi := { dst := some 24, op := Op.convert 25 5 (Operand.tmp 23), type := 5, pos := "asm.go:183", after := #[{ on := 10, ground := Ground.data }], guard := none }) (v := ?_) #[true, true, true, true, true, true, true, true, true, true, true, true, false, false] rfl rfl (by kernel_rfl) (fun _ _ _ h => h) (Or.inl ⟨by rfl, ?_⟩) hHeld ?_
        rotate_left
        · intro w' hSw; (try dsimp only at hSw); (have k4 : w'.cell? ⟨g, 4, none⟩ = some (slF s.gD) := cell_of_row w' g 4 _ _ _ hSw); go_simp; try with_reducible rfl
        simp only [Act.put, List.setIfInBounds_toArray, List.set_cons_zero, List.set_cons_succ]
        refine rgTake (i := 12) (N := some 25) (oi := { dst := some 25, op := Op.indexAddr 38 (Operand.tmp 16) (Operand.tmp 19), type := 0, pos := "asm.go:183", after := #[{ on := 3, ground := Ground.data }, { on := 6, ground := Ground.data }, { on := 0, ground := Ground.phase }, { on := 1, ground := Ground.phase }, { on := 2, ground := Ground.phase }, { on := 3, ground := Ground.phase }, { on := 4, ground := Ground.phase }, { on := 5, ground := Ground.phase }, { on := 6, ground := Ground.phase }, { on := 7, ground := Ground.phase }, { on := 8, ground := Ground.phase }, { on := 9, ground := Ground.phase }, { on := 10, ground := Ground.phase }, { on := 11, ground := Ground.phase }], guard := none }) (v := _) #[true, true, true, true, true, true, true, true, true, true, true, true, true, false] rfl rfl (by kernel_rfl) (fun _ _ _ h => h) (yieldsIdx (by rfl) 38 _ _ rfl 5 1 Tryd.underlying38 sizeU8 s.gD 0 16384 16384 q rfl rfl hq16) hHeld ?_
        simp only [Act.put, List.setIfInBounds_toArray, List.set_cons_zero, List.set_cons_succ]
        refine rgCall (i := 13) (N := none) (oi := { dst := none, op := Op.store 5 (Operand.tmp 25) (Operand.tmp 24), type := 0, pos := "asm.go:183", after := #[{ on := 12, ground := Ground.data }, { on := 11, ground := Ground.data }, { on := 0, ground := Ground.phase }, { on := 1, ground := Ground.phase }, { on := 2, ground := Ground.phase }, { on := 3, ground := Ground.phase }, { on := 4, ground := Ground.phase }, { on := 5, ground := Ground.phase }, { on := 6, ground := Ground.phase }, { on := 7, ground := Ground.phase }, { on := 8, ground := Ground.phase }, { on := 9, ground := Ground.phase }, { on := 10, ground := Ground.phase }, { on := 11, ground := Ground.phase }], guard := none }) #[true, true, true, true, true, true, true, true, true, true, true, true, true, true] rfl rfl (by kernel_rfl) (fun K hK => ?_)
        (refine rgCell (by rfl) 5 _ _ rfl s.gD (0 + q * 1) rfl (.int .u8 (b.toNat : Int)) rfl rfl rfl HP.out.data (by rw [ma_size]; unfold ints; rw [List.length_map]; have h9 := HP.out.ld; show 0 + q * 1 < D.length; have h8 : D.length = 16384 := h9; omega) infoU8 ?_; intro w5 ha ho; replace HT := keepTo HT (.inl (List.mem_singleton.2 rfl)) ho; replace HP : Hid (PrgAt w5 B s { p with data := D.set q b } rs) := Lib.hid (by have h9 := HP.out.setData ho ha; rw [show 0 + q * 1 = q by omega] at h9; exact h9); clear ha ho)
        refine hK.out _ _ (by rw [← HG.out]; exact HP.out.cells) (fun hHeld => ?_)
        clear hK K
        refine rgDone (by kernel_rfl) ?_ _
        clear hHeld
        rw [← HD2.out] at HP
        go_wp2
        go_roundg (gk - 1)
        case rel =>
          refine ⟨_, ?_, ?_, HP, HT⟩
          · rfl
          · have := HK.out; omega
        case measure => have := HK.out; omega
    · go_wp2
      refine bodyPost_end (results_none rfl _ _ _) rfl ?_
      have e : k = n := by have := HK.out; omega
      subst e
      exact ⟨rfl, HP.out, HT.out⟩
end Go.Proofs.YtaclidjhgpkmpaaDoor.My
