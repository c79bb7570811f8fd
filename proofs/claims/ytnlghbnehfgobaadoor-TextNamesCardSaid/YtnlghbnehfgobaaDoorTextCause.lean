/- Walk: the names of causes: the program's and the reference's. -/
import Derived.Test.YtnlghbnehfgobaaDoorTextNames2
import Derived.Deep.Cut
set_option linter.unusedVariables false
set_option linter.unusedSimpArgs false
namespace Go.Proofs.YtnlghbnehfgobaaDoor.My
open Go.RowKit
/-- The first causes' names. -/
def causesL : List (List UInt8) := [[110, 111, 110, 101], [102, 101, 116, 99, 104], [105, 108, 108, 101, 103, 97, 108], [115, 116, 111, 112], [108, 111, 97, 100], [97, 108, 105, 103, 110], [115, 116, 111, 114, 101], [99, 97, 108, 108], [112, 114, 105, 118], [98, 117, 115], [115, 105, 110, 103, 108, 101]]
def causesC : Array Value := (causesL.map fun l => Value.string (bs l)).toArray
theorem infoCa : (Tryd.prog.info? 62).map (·.size) = some 11 := by kernel_rfl
theorem zeroCa (w : World) : (zeroValue 62).run Tryd.prog w = .ok (.agg (Array.replicate 11 (.string ⟨#[]⟩))) w := by kernel_rfl
theorem causes_one : causesC.all (·.oneCell') = true := by decide +kernel
/-- A cause's name. -/
def causeV (n : Int) : List UInt8 := if 0 ≤ n ∧ n < 11 then causesL.getD n.toNat [] else if n = 16 then [111, 117, 116] else if n = 17 then [115, 101, 110, 100] else if n = 18 then [116, 105, 109, 101, 114] else []
theorem causes_at (k : Nat) (hk : k < 11) {w : World} {g : Nat} {t : TypeId} (h : Hid (w.heap[g]? = some (.cells causesC t (0, 0)))) : w.cell? ⟨g, k, none⟩ = some (.string (bs (causesL.getD k []))) := by
  rw [cellA h k]
  have hl : k < causesL.length := hk
  show ((causesL.map fun l => Value.string (bs l)).toArray)[k]? = _
  simp [hl, List.getD_eq_getElem?_getD]
set_option maxRecDepth 100000 in
set_option maxHeartbeats 2000000 in
theorem cause_any (n : Int) (w : World) : Calls Tryd.prog 18 #[.int .i64 n] w fun e w' => e = .returned (.string (bs (causeV n))) ∧ Below w.heap.size w w' := by
  have HB := startB w
  by_cases h1 : 0 ≤ n ∧ n < 11
  · obtain ⟨k, rfl⟩ : ∃ k : Nat, n = k := ⟨n.toNat, by omega⟩
    have hk : k < 11 := by omega
    have e : causeV (k : Int) = causesL.getD k [] := by unfold causeV; rw [if_pos h1, Int.toNat_natCast]
    rw [e]
    clear e h1
    go_enter Tryd.func18, Tryd.ntmps18
    go_upto_region 2 with (first | (refine wlAlloc (by rfl) 62 rfl (Array.replicate 11 (.string ⟨#[]⟩)) zeroCa ?_; intro gC w1 hg hl ha hb; have HGC : Hid (w.heap.size ≤ gC) := Lib.hid hg; replace HB := keepB HB hb; have HC := Lib.hid ha; clear ha hb hg hl) | (refine rowStore (by rfl) 62 _ _ rfl gC rfl causesC (by kernel_rfl) HC.out infoCa (by simp [causesC, causesL]) causes_one ?_; intro w2 ha ho; replace HC := Lib.hid ha; replace HB := keepBo HB HGC.out ho; clear ha ho))
    have f0 := causes_at k hk HC
    go_wp2
    go_ret
    exact ⟨rfl, HB.out.1⟩
  obtain ⟨R, hR⟩ : ∃ R, causeV n = R := ⟨_, rfl⟩
  rw [hR]
  have HR := Lib.hid hR
  clear hR
  go_enter Tryd.func18, Tryd.ntmps18
  go_upto_region 2 with (first | (refine wlAlloc (by rfl) 62 rfl (Array.replicate 11 (.string ⟨#[]⟩)) zeroCa ?_; intro gC w1 hg hl ha hb; have HGC : Hid (w.heap.size ≤ gC) := Lib.hid hg; replace HB := keepB HB hb; have HC := Lib.hid ha; clear ha hb hg hl) | (refine rowStore (by rfl) 62 _ _ rfl gC rfl causesC (by kernel_rfl) HC.out infoCa (by simp [causesC, causesL]) causes_one ?_; intro w2 ha ho; replace HC := Lib.hid ha; replace HB := keepBo HB HGC.out ho; clear ha ho))
  go_wp2
  all_goals first | (exfalso; omega) | (go_ret; refine ⟨?_, HB.out.1⟩; rw [← HR.out]; clear HR; (try simp only [beq_iff_eq, beq_eq_false_iff_ne, ne_eq] at *); unfold causeV)
  all_goals (repeat (first | rw [if_pos (by omega)] | rw [if_neg (by omega)]))
  all_goals first | rfl | skip
set_option maxRecDepth 100000 in
set_option maxHeartbeats 2000000 in
theorem rcause_any (n : Int) (w : World) : Calls Tryd.prog 19 #[.int .i64 n] w fun e w' => e = .returned (.string (bs (causeV n))) ∧ Below w.heap.size w w' := by
  have HB := startB w
  by_cases h1 : 0 ≤ n ∧ n < 11
  · obtain ⟨k, rfl⟩ : ∃ k : Nat, n = k := ⟨n.toNat, by omega⟩
    have hk : k < 11 := by omega
    have e : causeV (k : Int) = causesL.getD k [] := by unfold causeV; rw [if_pos h1, Int.toNat_natCast]
    rw [e]
    clear e h1
    go_enter Tryd.func19, Tryd.ntmps19
    go_upto_region 2 with ((refine wlLit rfl 39 11 _ rfl causesC 9 (fun _ => by kernel_rfl) ?_; intro gC w2 hg1 hg2 ha hb; have HC := Lib.hid ha; replace HB := keepB HB hb; clear ha hb hg1 hg2))
    have f0 := causes_at k hk HC
    go_wp2
    go_ret
    exact ⟨rfl, HB.out.1⟩
  obtain ⟨R, hR⟩ : ∃ R, causeV n = R := ⟨_, rfl⟩
  rw [hR]
  have HR := Lib.hid hR
  clear hR
  go_enter Tryd.func19, Tryd.ntmps19
  go_upto_region 2 with ((refine wlLit rfl 39 11 _ rfl causesC 9 (fun _ => by kernel_rfl) ?_; intro gC w2 hg1 hg2 ha hb; have HC := Lib.hid ha; replace HB := keepB HB hb; clear ha hb hg1 hg2))
  go_wp2
  all_goals first | (exfalso; omega) | (go_ret; refine ⟨?_, HB.out.1⟩; rw [← HR.out]; clear HR; (try simp only [beq_iff_eq, beq_eq_false_iff_ne, ne_eq] at *); unfold causeV)
  all_goals (repeat (first | rw [if_pos (by omega)] | rw [if_neg (by omega)]))
  all_goals first | rfl | skip
end Go.Proofs.YtnlghbnehfgobaaDoor.My
