/- Walk: the names of operations: the program's. -/
import Derived.Test.YtaclidjhgpkmpaaDoorShelf
import Derived.Test.YtaclidjhgpkmpaaDoorByteWords
import Derived.Test.YtaclidjhgpkmpaaDoorRowWords
import Derived.WalkSmall
set_option linter.unusedVariables false
set_option linter.unusedSimpArgs false
namespace Go.Proofs.YtaclidjhgpkmpaaDoor.My
open Go.RowKit
/-- The names of operations, in order. -/
def namesL : List (List UInt8) := [[97, 100, 100], [115, 117, 98], [97, 110, 100], [111, 114], [120, 111, 114], [115, 108, 108], [115, 114, 108], [115, 114, 97], [115, 108, 116], [115, 108, 116, 117], [109, 117, 108], [109, 117, 108, 104], [109, 117, 108, 104, 117], [100, 105, 118], [100, 105, 118, 117], [114, 101, 109], [114, 101, 109, 117], [109, 105, 110], [109, 97, 120], [114, 111, 114], [99, 108, 122], [112, 111, 112], [114, 101, 118], [99, 109, 111, 118], [97, 100, 100, 105], [97, 110, 100, 105], [111, 114, 105], [120, 111, 114, 105], [115, 108, 116, 105], [115, 108, 108, 105], [115, 114, 108, 105], [115, 114, 97, 105], [108, 117, 105], [108, 98], [108, 98, 117], [108, 104], [108, 104, 117], [108, 119], [108, 119, 112], [115, 98], [115, 104], [115, 119], [98, 101, 113], [98, 110, 101], [98, 108, 116], [98, 103, 101], [98, 108, 116, 117], [98, 103, 101, 117], [106, 97, 108], [106, 97, 108, 114], [115, 119, 97, 112], [102, 97, 100, 100], [99, 97, 115], [99, 97, 108, 108], [116, 114, 101, 116], [99, 115, 114, 114], [99, 115, 114, 119], [102, 101, 110, 99, 101], [115, 121, 110, 99], [111, 117, 116], [104, 97, 108, 116], [115, 101, 110, 100], [110, 111, 112]]
def namesJ : List UInt8 := Lib.join namesL [32]
def namesC : Array Value := (namesL.map fun l => Value.string (bs l)).toArray
theorem names_fields : Lib.fields namesJ = namesL := by decide +kernel
theorem names_ascii : ∀ (j : Nat) b, namesJ[j]? = some b → b.toNat < 128 := by
  intro j b h
  have h1 : ∀ c ∈ namesJ, c.toNat < 128 := by decide +kernel
  exact h1 b (List.mem_of_getElem? h)
theorem names_len : namesJ.length = 272 := by decide +kernel
theorem tab_below {w w' : World} (h : Lib.TabIs Tryd.prog w "strings.asciiSpace" .u8 Lib.asciiSpaceTab) (hb : Below w.heap.size w w') : Lib.TabIs Tryd.prog w' "strings.asciiSpace" .u8 Lib.asciiSpaceTab := by
  cases hg : Tryd.prog.globalNamed "strings.asciiSpace" with
  | none => unfold Lib.TabIs World.var? at h; simp [hg] at h
  | some g =>
    have hc := h.cell hg 0 (by decide +kernel)
    exact var?_below hb hg (World.block_lt_of_cell? w _ hc) h
/-- The fields of the names' text. -/
theorem names_any (s : ByteArray) (h : s.data.toList = namesJ) (w : World) (ht : Lib.TabIs Tryd.prog w "strings.asciiSpace" .u8 Lib.asciiSpaceTab) : Calls Tryd.prog 32 #[.string s] w fun e w' => ∃ g, e = .returned (.slice (some ⟨g, 0, none⟩) 63 63) ∧ w.heap.size ≤ g ∧ w'.heap[g]? = some (.cells namesC 9 (0, 0)) ∧ Below w.heap.size w w' := by
  have hz : s.size = namesJ.length := by show s.data.size = _; rw [← h]; simp
  refine (Tryd.strings_Fields s w (by rw [hz, names_len]; decide) (by rw [h]; exact names_ascii) ht).mono ?_
  rintro e w' ⟨rfl, rfl⟩
  rw [h, names_fields]
  exact ⟨w.heap.size, rfl, Nat.le_refl _, heap_alloc_new _ _, (Below.refl _ _).alloc (Nat.le_refl _) _⟩
/-- An operation's name. -/
def nameV (op : Int) : List UInt8 := if op < 1 ∨ 63 < op then [] else namesL.getD (op - 1).toNat []
/-- The operation that has a name. -/
def opR : List (List UInt8) → List UInt8 → Nat → Nat
  | [], _, _ => 0
  | n :: r, l, i => if n = l then i else opR r l (i + 1)
def opV (l : List UInt8) : Nat := opR namesL l 1
set_option maxRecDepth 100000 in
set_option maxHeartbeats 1000000 in
theorem name_any (op : Int) (w : World) (ht : Lib.TabIs Tryd.prog w "strings.asciiSpace" .u8 Lib.asciiSpaceTab) : Calls Tryd.prog 22 #[.int .i64 op] w fun e w' => e = .returned (.string (bs (nameV op))) ∧ Below w.heap.size w w' := by
  have HB := startB w
  have HTB := Lib.hid ht
  clear ht
  by_cases h1 : op < 1
  · have e : nameV op = [] := if_pos (.inl h1)
    rw [e]
    clear e
    go_enter Tryd.func22, Tryd.ntmps22
    go_wp2_with (go_at_call 32; refine (names_any _ (by kernel_rfl) _ HTB.out).mono ?_; rintro e w1 ⟨g, rfl, hg, ha, hb⟩; replace HB := keepB HB hb; have HG := Lib.hid ha; clear ha hb hg)
    go_ret
    exact ⟨rfl, HB.out.1⟩
  by_cases h2 : 63 < op
  · have e : nameV op = [] := if_pos (.inr h2)
    rw [e]
    clear e
    go_enter Tryd.func22, Tryd.ntmps22
    go_wp2_with (go_at_call 32; refine (names_any _ (by kernel_rfl) _ HTB.out).mono ?_; rintro e w1 ⟨g, rfl, hg, ha, hb⟩; replace HB := keepB HB hb; have HG := Lib.hid ha; clear ha hb hg)
    go_ret
    exact ⟨rfl, HB.out.1⟩
  obtain ⟨k, rfl⟩ : ∃ k : Nat, op = (k : Int) + 1 := ⟨(op - 1).toNat, by omega⟩
  have hk : k < 63 := by omega
  have e : nameV ((k : Int) + 1) = namesL.getD k [] := by
    unfold nameV
    rw [if_neg (by omega), show ((k : Int) + 1 - 1).toNat = k by omega]
  rw [e]
  clear e
  go_enter Tryd.func22, Tryd.ntmps22
  go_upto_region 2 with (go_at_call 32; refine (names_any _ (by kernel_rfl) _ HTB.out).mono ?_; rintro e w1 ⟨g, rfl, hg, ha, hb⟩; replace HB := keepB HB hb; have HG := Lib.hid ha; clear ha hb hg)
  have f0 : w1.cell? ⟨g, k, none⟩ = some (.string (bs (namesL.getD k []))) := by
    rw [cellA HG k]
    have hl : k < namesL.length := hk
    show ((namesL.map fun l => Value.string (bs l)).toArray)[k]? = _
    simp [hl, List.getD_eq_getElem?_getD]
  go_wp2
  go_ret
  exact ⟨rfl, HB.out.1⟩
end Go.Proofs.YtaclidjhgpkmpaaDoor.My
