/- Walk: the names of operations: Op, and the reference's. -/
import Derived.Test.YtnlghbnehfgobaaDoorTextNames
import Derived.Test.YtnlghbnehfgobaaDoorTextRows
set_option linter.unusedVariables false
set_option linter.unusedSimpArgs false
namespace Go.Proofs.YtnlghbnehfgobaaDoor.My
open Go.RowKit
theorem bs_inj {a b : List UInt8} (h : bs a = bs b) : a = b := by
  have := congrArg (fun s : ByteArray => s.data.toList) h
  simpa [bs] using this
theorem toL (l : List UInt8) : (bs l).toList = l := ByteArray.toList_eq _
theorem toL_ne {a b : List UInt8} (h : ¬ a = b) : ((bs a).toList == (bs b).toList) = false := by rw [toL, toL]; exact beq_eq_false_iff_ne.2 h
theorem idx_op (l : List UInt8) : ∀ (ls : List (List UInt8)) (i : Nat), Lib.idxFromS (ls.map bs) (bs l) i + 1 = (opR ls l (i + 1) : Int)
  | [], i => rfl
  | n :: r, i => by
    rw [List.map_cons, Lib.idxFromS, opR]
    by_cases h : n = l
    · subst h
      rw [if_pos rfl, if_pos (by first | rfl | simp)]
      rfl
    · rw [if_neg h, if_neg (by first | exact fun q => h (bs_inj q) | (simp; exact fun q => h (bs_inj q)))]
      have := idx_op l r (i + 1)
      exact this
theorem names_at (k : Nat) (hk : k < 63) {w : World} {g : Nat} (h : Hid (w.heap[g]? = some (.cells namesC 9 (0, 0)))) : w.cell? ⟨g, k, none⟩ = some (.string (bs (namesL.getD k []))) := by
  rw [cellA h k]
  have hl : k < namesL.length := hk
  show ((namesL.map fun l => Value.string (bs l)).toArray)[k]? = _
  simp [hl, List.getD_eq_getElem?_getD]
set_option maxRecDepth 100000 in
set_option maxHeartbeats 1000000 in
theorem op_any (l : List UInt8) (w : World) (ht : Lib.TabIs Tryd.prog w "strings.asciiSpace" .u8 Lib.asciiSpaceTab) : Calls Tryd.prog 11 #[.string (bs l)] w fun e w' => e = .returned (.int .i64 (opV l : Nat)) ∧ Below w.heap.size w w' := by
  have HB := startB w
  have HTB := Lib.hid ht
  clear ht
  obtain ⟨I, hI⟩ : ∃ I, Lib.idxOfS (namesL.map bs) (bs l) = I := ⟨_, rfl⟩
  have hR : I + 1 = (opV l : Int) := by rw [← hI]; exact idx_op l namesL 0
  obtain ⟨R, hR2⟩ : ∃ R, opV l = R := ⟨_, rfl⟩
  rw [hR2] at hR ⊢
  have hRl : R ≤ 1000 := by
    rw [← hR2]
    have : ∀ (ls : List (List UInt8)) (i : Nat), opR ls l i ≤ i + ls.length := by
      intro ls
      induction ls with
      | nil => intro i; exact Nat.zero_le _
      | cons n r ih => intro i; rw [opR]; split; omega; have := ih (i + 1); simp only [List.length_cons]; omega
    exact Nat.le_trans (this namesL 1) (by decide)
  have e : I = (R : Int) - 1 := by omega
  subst e
  have HI := Lib.hid hI
  clear hI hR hR2
  go_enter Tryd.func11, Tryd.ntmps11
  go_wp2_with (first | (go_at_call 20; refine (names_any _ (by kernel_rfl) _ HTB.out).mono ?_; rintro e w1 ⟨g, rfl, hg, ha, hb⟩; replace HB := keepB HB hb; have HG := Lib.hid ha; clear ha hb hg) | (go_at_call 22; refine (Tryd.slices_Index_string g 0 63 63 (namesL.map bs) (bs l) _ (by decide) (by decide) (fun j hj => by have hj2 : j < 63 := hj; rw [Nat.zero_add, names_at j hj2 HG]; simp [List.getD_eq_getElem?_getD, hj2, show j < namesL.length from hj2])).mono ?_; rintro e w2 ⟨rfl, rfl⟩; rw [show ((namesL.map bs).take 63) = namesL.map bs from rfl, HI.out]))
  go_ret
  exact ⟨by first | rfl | (congr 2; omega), HB.out.1⟩
set_option maxRecDepth 100000 in
set_option maxHeartbeats 1000000 in
theorem rnames_any (w : World) : Calls Tryd.prog 21 #[] w fun e w' => ∃ g, e = .returned (.slice (some ⟨g, 0, none⟩) 63 63) ∧ w.heap.size ≤ g ∧ w'.heap[g]? = some (.cells namesC 9 (0, 0)) ∧ Below w.heap.size w w' := by
  have HB := startB w
  go_enter Tryd.func21, Tryd.ntmps21
  go_wp2_with (refine wlLit rfl 39 63 _ rfl namesC 9 (fun _ => by kernel_rfl) ?_; intro gP w2 hg1 hg2 ha hb; have HG := Lib.hid ha; replace HB := keepB HB hb; have HGP : Hid (w.heap.size ≤ gP) := Lib.hid hg1; clear ha hb hg1 hg2)
  go_ret
  exact ⟨gP, rfl, HGP.out, HG.out, HB.out.1⟩
set_option maxRecDepth 100000 in
set_option maxHeartbeats 1000000 in
theorem rname_any (op : Int) (w : World) : Calls Tryd.prog 10 #[.int .i64 op] w fun e w' => e = .returned (.string (bs (nameV op))) ∧ Below w.heap.size w w' := by
  have HB := startB w
  by_cases h1 : op < 1
  · have e : nameV op = [] := if_pos (.inl h1)
    rw [e]
    clear e
    go_enter Tryd.func10, Tryd.ntmps10
    go_wp2_with (go_at_call 21; refine (rnames_any _).mono ?_; rintro e w1 ⟨g, rfl, hg, ha, hb⟩; replace HB := keepB HB hb; have HG := Lib.hid ha; clear ha hb hg)
    go_ret
    exact ⟨rfl, HB.out.1⟩
  by_cases h2 : 63 < op
  · have e : nameV op = [] := if_pos (.inr h2)
    rw [e]
    clear e
    go_enter Tryd.func10, Tryd.ntmps10
    go_wp2_with (go_at_call 21; refine (rnames_any _).mono ?_; rintro e w1 ⟨g, rfl, hg, ha, hb⟩; replace HB := keepB HB hb; have HG := Lib.hid ha; clear ha hb hg)
    go_ret
    exact ⟨rfl, HB.out.1⟩
  obtain ⟨k, rfl⟩ : ∃ k : Nat, op = (k : Int) + 1 := ⟨(op - 1).toNat, by omega⟩
  have hk : k < 63 := by omega
  have e : nameV ((k : Int) + 1) = namesL.getD k [] := by
    unfold nameV
    rw [if_neg (by omega), show ((k : Int) + 1 - 1).toNat = k by omega]
  rw [e]
  clear e
  go_enter Tryd.func10, Tryd.ntmps10
  go_upto_region 2 with (go_at_call 21; refine (rnames_any _).mono ?_; rintro e w1 ⟨g, rfl, hg, ha, hb⟩; replace HB := keepB HB hb; have HG := Lib.hid ha; clear ha hb hg)
  have f0 := names_at k hk HG
  go_wp2
  go_ret
  exact ⟨rfl, HB.out.1⟩
set_option maxRecDepth 100000 in
set_option maxHeartbeats 1000000 in
theorem rop_any (l : List UInt8) (w : World) : Calls Tryd.prog 12 #[.string (bs l)] w fun e w' => e = .returned (.int .i64 (opV l : Nat)) ∧ Below w.heap.size w w' := by
  have HB := startB w
  obtain ⟨R, hR⟩ : ∃ R, opV l = R := ⟨_, rfl⟩
  rw [hR]
  have HR : Hid (opR (namesL.drop 0) l (0 + 1) = R) := Lib.hid hR
  clear hR
  go_enter Tryd.func12, Tryd.ntmps12
  go_wp2_with (go_at_call 21; refine (rnames_any _).mono ?_; rintro e w1 ⟨g, rfl, hg, ha, hb⟩; replace HB := keepB HB hb; have HG := Lib.hid ha; clear ha hb hg)
  go_loop [4] (fun i => ∃ k : Nat, k ≤ 63 ∧ i = .int .i64 k ∧ Hid (opR (namesL.drop k) l (k + 1) = R)) (fun i => 63 - (intOf i).toNat)
  case atStart => exact ⟨0, by omega, by first | trivial | rfl, HR⟩
  case round =>
    clear HR
    obtain ⟨k, hk, rfl, HR⟩ := hrel
    by_cases hlt : k < 63
    · have f0 := names_at k hlt HG
      have hr := HR.out
      have hd : namesL.drop k = namesL.getD k [] :: namesL.drop (k + 1) := by
        have hl : k < namesL.length := hlt
        rw [List.drop_eq_getElem_cons hl]
        simp [List.getD_eq_getElem?_getD, hl]
      obtain ⟨x, hx⟩ : ∃ x, namesL.getD k [] = x := ⟨_, rfl⟩
      rw [hd, opR, hx] at hr
      rw [hx] at f0
      clear HR hx hd
      by_cases q : x = l
      · rw [if_pos q] at hr
        subst q
        subst hr
        go_wp2
        go_ret
        exact ⟨rfl, HB.out.1⟩
      · rw [if_neg q] at hr
        have q1 : ((bs x).toList == (bs l).toList) = false := toL_ne q
        have HR := Lib.hid hr
        clear hr
        go_wp2
        go_round
        case rel => exact ⟨k + 1, by omega, by first | trivial | go_num, HR⟩
        case measure => simp [intOf]; omega
    · obtain rfl : k = 63 := by omega
      have hr : 0 = R := HR.out
      subst hr
      go_wp2
      go_ret
      exact ⟨rfl, HB.out.1⟩
end Go.Proofs.YtnlghbnehfgobaaDoor.My
