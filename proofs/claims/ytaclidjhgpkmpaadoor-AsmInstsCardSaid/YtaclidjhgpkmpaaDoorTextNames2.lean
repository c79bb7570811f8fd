/- Walk: the names of operations: Op, and the reference's. -/
import Derived.Test.YtaclidjhgpkmpaaDoorTextNames
import Derived.Test.YtaclidjhgpkmpaaDoorTextRows
set_option linter.unusedVariables false
set_option linter.unusedSimpArgs false
namespace Go.Proofs.YtaclidjhgpkmpaaDoor.My
open Go.RowKit
theorem bs_inj {a b : List UInt8} (h : bs a = bs b) : a = b := by
  have := congrArg (fun s : ByteArray => s.data.toList) h
  simpa [bs] using this
theorem toL (l : List UInt8) : (bs l).toList = l := ByteArray.toList_eq _
theorem toL_ne {a b : List UInt8} (h : ¬ a = b) : ((bs a).toList == (bs b).toList) = false := by rw [toL, toL]; exact beq_eq_false_iff_ne.2 h
theorem idx_op (l : List UInt8) : ∀ (ls : List (List UInt8)) (i : Nat), Lib.idxFromS (ls.map bs) (bs l) i + 1 = (opR ls l (i + 1) : Int)
  | [], i => rfl
  | n :: r, i => by
    rw [List.map_cons, Lib.idxFromS, opR]
    by_cases h : n = l
    · subst h
      rw [if_pos rfl, if_pos (by first | rfl | simp)]
      rfl
    · rw [if_neg h, if_neg (by first | exact fun q => h (bs_inj q) | (simp; exact fun q => h (bs_inj q)))]
      have := idx_op l r (i + 1)
      exact this
theorem names_at (k : Nat) (hk : k < 63) {w : World} {g : Nat} (h : Hid (w.heap[g]? = some (.cells namesC 9 (0, 0)))) : w.cell? ⟨g, k, none⟩ = some (.string (bs (namesL.getD k []))) := by
  rw [cellA h k]
  have hl : k < namesL.length := hk
  show ((namesL.map fun l => Value.string (bs l)).toArray)[k]? = _
  simp [hl, List.getD_eq_getElem?_getD]
set_option maxRecDepth 100000 in
set_option maxHeartbeats 1000000 in
theorem op_any (l : List UInt8) (w : World) (ht : Lib.TabIs Tryd.prog w "strings.asciiSpace" .u8 Lib.asciiSpaceTab) : Calls Tryd.prog 64 #[.string (bs l)] w fun e w' => e = .returned (.int .i64 (opV l : Nat)) ∧ Below w.heap.size w w' := by
  have HB := startB w
  have HTB := Lib.hid ht
  clear ht
  obtain ⟨I, hI⟩ : ∃ I, Lib.idxOfS (namesL.map bs) (bs l) = I := ⟨_, rfl⟩
  have hR : I + 1 = (opV l : Int) := by rw [← hI]; exact idx_op l namesL 0
  obtain ⟨R, hR2⟩ : ∃ R, opV l = R := ⟨_, rfl⟩
  rw [hR2] at hR ⊢
  have hRl : R ≤ 1000 := by
    rw [← hR2]
    have : ∀ (ls : List (List UInt8)) (i : Nat), opR ls l i ≤ i + ls.length := by
      intro ls
      induction ls with
      | nil => intro i; exact Nat.zero_le _
      | cons n r ih => intro i; rw [opR]; split; omega; have := ih (i + 1); simp only [List.length_cons]; omega
    exact Nat.le_trans (this namesL 1) (by decide)
  have e : I = (R : Int) - 1 := by omega
  subst e
  have HI := Lib.hid hI
  clear hI hR hR2
  go_enter Tryd.func64, Tryd.ntmps64
  go_wp2_with (first | (go_at_call 32; refine (names_any _ (by kernel_rfl) _ HTB.out).mono ?_; rintro e w1 ⟨g, rfl, hg, ha, hb⟩; replace HB := keepB HB hb; have HG := Lib.hid ha; clear ha hb hg) | (go_at_call 74; refine (Tryd.slices_Index_string g 0 63 63 (namesL.map bs) (bs l) _ (by decide) (by decide) (fun j hj => by have hj2 : j < 63 := hj; rw [Nat.zero_add, names_at j hj2 HG]; simp [List.getD_eq_getElem?_getD, hj2, show j < namesL.length from hj2])).mono ?_; rintro e w2 ⟨rfl, rfl⟩; rw [show ((namesL.map bs).take 63) = namesL.map bs from rfl, HI.out]))
  go_ret
  exact ⟨by first | rfl | (congr 2; omega), HB.out.1⟩
end Go.Proofs.YtaclidjhgpkmpaaDoor.My
