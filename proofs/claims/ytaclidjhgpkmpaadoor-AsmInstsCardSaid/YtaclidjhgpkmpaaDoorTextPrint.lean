/- Walk: an instruction's text: the program's. -/
import Derived.Test.YtaclidjhgpkmpaaDoorTextField
import Derived.Test.YtaclidjhgpkmpaaDoorTextDec2
import Derived.Test.YtaclidjhgpkmpaaDoorTextNames2
set_option linter.unusedVariables false
set_option linter.unusedSimpArgs false
namespace Go.Proofs.YtaclidjhgpkmpaaDoor.My
open Go.RowKit
abbrev OwnT (w : World) (B : Nat) (v : Value) (ls : List (List UInt8)) : Prop := w.ownsRow B 9 1 v ls.length ((ls.map bs).map Value.string)
def valV (rd ra rb im c : Int) : Int := if c = 100 then rd else if c = 97 then ra else if c = 98 then rb else im
/-- A field's text. -/
def partV (rd ra rb im : Int) (c : UInt8) : List UInt8 := if c = 105 then decL (valV rd ra rb im (c.toNat : Int)) else 114 :: decL (valV rd ra rb im (c.toNat : Int))
/-- An instruction's text. -/
def printV (op rd ra rb im : Int) : List UInt8 :=
  if rightI op rd ra rb im ≠ 0 then [] else
    if fieldsV (formV op) = [] then nameV op else nameV op ++ [32] ++ Lib.join ((fieldsV (formV op)).map (partV rd ra rb im)) [44, 32]
theorem slot_val (op rd ra rb im c : Int) : (insA op rd ra rb im)[slotV c]? = some (.int .i64 (valV rd ra rb im c)) := by
  unfold slotV valV
  repeat' split
  all_goals rfl
theorem infoStrP : (Tryd.prog.info? 9).map (fun i => (i.zero, i.size, i.bytes)) = some (some (.string ⟨#[]⟩), 1, 16) := by kernel_rfl
theorem ownT_more {w : World} {B n : Nat} {v : Value} {ls ms : List (List UInt8)} {x : List UInt8} (h : w.ownsRow B 9 1 v (n + 1) ((ls.map bs).map Value.string ++ [.string (bs x)])) (hn : ls.length = n) (he : ls ++ [x] = ms) : OwnT w B v ms := by
  subst he; subst hn
  unfold OwnT
  rw [List.map_append, List.map_append, List.length_append]
  exact h
theorem join_any (w : World) (B : Nat) (v : Value) (ls : List (List UInt8)) (h : OwnT w B v ls) (hn : 0 < ls.length) (hm : ls.length ≤ 1000000) (hj : (Lib.join ls [44, 32]).length ≤ 100000000) : Calls Tryd.prog 23 #[v, .string ⟨#[44, 32]⟩] w fun e w' => e = .returned (.string (bs (Lib.join ls [44, 32]))) ∧ Below w.heap.size w w' := by
  have em : (ls.map bs).map (·.data.toList) = ls := by
    rw [List.map_map]
    conv => rhs; rw [← List.map_id ls]
    apply List.map_congr_left
    intro l _
    rfl
  have hl : (ls.map bs).length = ls.length := by simp
  rcases h.2 with ⟨_, h0⟩ | ⟨g, cap, cur, rfl, hB, hcur, hcap, _⟩
  · omega
  · have := Tryd.strings_Join g 0 cap (ls.map bs) ⟨#[44, 32]⟩ w (fun j x hx => by
      have hc := h.cells (g := g) rfl j (.string x) (by rw [List.getElem?_map, hx]; rfl)
      rwa [addr_add] at hc) (Array.getElem?_eq_some_iff.1 hcur).1 (by omega) (by rw [hl]; exact hcap) (by rw [em]; exact Nat.le_trans hj (by decide))
    rw [em, hl] at this
    exact this
theorem fields_ok (f : Int) : (∀ c ∈ fieldsV f, c = 100 ∨ c = 97 ∨ c = 98 ∨ c = 105) ∧ (fieldsV f).length ≤ 3 := by
  unfold fieldsV
  repeat' split
  all_goals exact ⟨by decide, by decide⟩
end Go.Proofs.YtaclidjhgpkmpaaDoor.My
