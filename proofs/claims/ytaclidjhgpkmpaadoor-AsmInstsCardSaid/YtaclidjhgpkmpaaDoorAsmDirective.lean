/- Walk: what a word that begins with a dot is. -/
import Derived.Test.YtaclidjhgpkmpaaDoorAsmEqu
import Derived.Laws.EntriesVeiled
set_option linter.unusedVariables false
set_option linter.unusedSimpArgs false
namespace Go.Proofs.YtaclidjhgpkmpaaDoor.My
open Go.RowKit
/-- Which directive a word is. -/
def dirK (x : List UInt8) : Nat := if x = [46, 111, 114, 103] then 1 else if x = [46, 115, 112, 97, 99, 101] then 2 else if x = [46, 101, 113, 117] then 3 else if x = [46, 119, 111, 114, 100] then 4 else if x = [46, 98, 121, 116, 101] then 5 else 0
def dirF (k : Nat) : Value → Value := fun c => match k with
  | 1 => .func (.func 57) #[] #[c]
  | 2 => .func (.func 59) #[] #[c]
  | 3 => .func (.func 60) #[] #[c]
  | 4 => .func (.func 61) #[] #[c]
  | 5 => .func (.func 62) #[] #[c]
  | _ => .nilFunc
def dirL (k : Nat) : Int := match k with | 0 => 0 | 3 => 2 | _ => 1
def dirM (k : Nat) : Int := match k with | 0 => 0 | 1 => 1 | 2 => 1 | 3 => 2 | _ => -1
def dirA (k gB : Nat) : Array Value := #[.int .i64 (dirL k), .int .i64 (dirM k), dirF k (.pointer (some ⟨gB, 0, none⟩))]
theorem zeroDi (w : World) : (zeroValue 103).run Tryd.prog w = .ok (.agg #[.int .i64 0, .int .i64 0, .nilFunc]) w := by kernel_rfl
theorem infoDi : (Tryd.prog.info? 103).map (·.size) = some 3 := by kernel_rfl
theorem dir_info (k gB : Nat) : (Tryd.prog.info? 103).map (·.size) = some (dirA k gB).size := infoDi
theorem dir_sz (a b c : Value) (k gB : Nat) : (#[a, b, c] : Array Value).size = (dirA k gB).size := rfl
theorem dir_one (k gB : Nat) : (dirA k gB).all (·.oneCell') = true := by
  match k with
  | 0 | 1 | 2 | 3 | 4 | 5 => simp [dirA, dirF, Value.oneCell']
  | k + 6 => simp [dirA, dirF, Value.oneCell']
theorem run_mf (fn : Fn) (first cap : Array Value) (w : World) : (Instr.makeFunc fn first cap).run Tryd.prog w = .ok (.func fn first cap) w := rfl
theorem wlBoxP {P : Program} {ops : Array Oper} {o : Oper} {a : Act} {w : World} {Q : Exit → Act → World → Prop} {rest : List Oper} (hw : Region.wanted o (yielded ops a.tmps) = true) (ty : TypeId) (x : Operand) (ho : o.op = .box ty x) (v : Value) (hx : a.eval x = v) (hc : v.cells = #[v])
    (h : ∀ (g : Nat) (w2 : World), w.heap.size ≤ g → g < w2.heap.size → w2.heap[g]? = some (.cells #[v] ty (0, 0)) → Below w.heap.size w w2 → wpList P ops Q rest (a.put o.dst (.pointer (some ⟨g, 0, none⟩))) w2) : wpList P ops Q (o :: rest) a w :=
  wpList_step fun K hK => by
    rw [if_pos hw]
    have hrun : (execOp a.eval o).run P w = .ok (.value (.pointer (some ⟨w.heap.size, 0, none⟩))) (w.alloc (.cells #[v] ty)) := by
      unfold execOp
      rw [ho]
      simp only [hx]
      show Result.ok _ (w.alloc (.cells v.cells ty)) = _
      rw [hc]
    unfold Oper.wp
    rw [hrun]
    exact hK _ _ (h _ _ (Nat.le_refl _) (by simp) (heap_alloc_new _ _) ((Below.refl _ _).alloc (Nat.le_refl _) _))
set_option maxRecDepth 100000 in
set_option maxHeartbeats 8000000 in
theorem dir_any (s : Nat) (x : List UInt8) (w : World) : Calls Tryd.prog 42 #[.pointer (some ⟨s, 0, none⟩), .string (bs x)] w fun e w' => (∃ gB, e = .returned (.tuple #[.agg (dirA (dirK x) gB), .bool (dirK x != 0)]) ∧ w.heap.size ≤ gB ∧ w'.heap[gB]? = some (.cells #[.pointer (some ⟨s, 0, none⟩)] 63 (0, 0))) ∧ Below w.heap.size w w' := by
  have HB := startB w
  have hmf := run_mf
  obtain ⟨K, hK⟩ : ∃ K, dirK x = K := ⟨_, rfl⟩
  rw [hK]
  unfold dirK at hK
  by_cases e1 : x = [46, 111, 114, 103]
  · rw [if_pos e1] at hK
    have q1 : ((bs x).toList == [46, 111, 114, 103]) = true := by rw [e1, toL]; rfl
    clear e1
    subst hK
    go_enter Tryd.func42, Tryd.ntmps42
    go_upto_region 1 with (first | (refine wlBoxP (by rfl) 63 _ rfl (.pointer (some ⟨s, 0, none⟩)) rfl rfl ?_; intro gB w1 hg hl ha hb; have HG : Hid (w.heap.size ≤ gB) := Lib.hid hg; have HX := Lib.hid ha; replace HB := keepB HB hb; clear hg hl ha hb) | (refine wlAlloc (by rfl) 103 rfl #[.int .i64 0, .int .i64 0, .nilFunc] zeroDi ?_; intro gR w2 hg hl ha hb; have HGR : Hid (w.heap.size ≤ gR) := Lib.hid (Nat.le_trans HB.out.2 hg); have HNE : Hid (gB ≠ gR) := Lib.hid (Nat.ne_of_lt (Nat.lt_of_lt_of_le (Array.getElem?_eq_some_iff.1 HX.out).1 hg)); replace HX := keepA HX hb; replace HB := keepB HB hb; have HR := Lib.hid ha; clear hg hl ha hb))
    go_wp2_with (first | (refine wlBuild rfl 103 #[(0, _), (1, _), (2, _)] rfl (.agg (dirA 1 gB)) (by kernel_rfl) ?_) | (refine rowStore (by rfl) 103 _ _ rfl gR rfl (dirA 1 gB) rfl HR.out (dir_info _ _) (dir_sz _ _ _ _ _) (dir_one _ _) ?_; intro w3 ha ho; replace HR := Lib.hid ha; replace HX := keepAo HX HNE.out ho; replace HB := keepBo HB HGR.out ho; clear ha ho))
    exact bodyPost_ret (res1c rfl _ _ gR 103 (dirA 1 gB) (0, 0) _ rfl HR.out Tryd.underlying103 rfl infoDi) rfl ⟨⟨gB, rfl, HG.out, HX.out⟩, HB.out.1⟩
  rw [if_neg e1] at hK
  have q1 : ((bs x).toList == [46, 111, 114, 103]) = false := by rw [toL]; exact beq_eq_false_iff_ne.2 e1
  by_cases e2 : x = [46, 115, 112, 97, 99, 101]
  · rw [if_pos e2] at hK
    have q2 : ((bs x).toList == [46, 115, 112, 97, 99, 101]) = true := by rw [e2, toL]; rfl
    clear e1 e2
    subst hK
    go_enter Tryd.func42, Tryd.ntmps42
    go_upto_region 1 with (first | (refine wlBoxP (by rfl) 63 _ rfl (.pointer (some ⟨s, 0, none⟩)) rfl rfl ?_; intro gB w1 hg hl ha hb; have HG : Hid (w.heap.size ≤ gB) := Lib.hid hg; have HX := Lib.hid ha; replace HB := keepB HB hb; clear hg hl ha hb) | (refine wlAlloc (by rfl) 103 rfl #[.int .i64 0, .int .i64 0, .nilFunc] zeroDi ?_; intro gR w2 hg hl ha hb; have HGR : Hid (w.heap.size ≤ gR) := Lib.hid (Nat.le_trans HB.out.2 hg); have HNE : Hid (gB ≠ gR) := Lib.hid (Nat.ne_of_lt (Nat.lt_of_lt_of_le (Array.getElem?_eq_some_iff.1 HX.out).1 hg)); replace HX := keepA HX hb; replace HB := keepB HB hb; have HR := Lib.hid ha; clear hg hl ha hb))
    go_wp2_with (first | (refine wlBuild rfl 103 #[(0, _), (1, _), (2, _)] rfl (.agg (dirA 2 gB)) (by kernel_rfl) ?_) | (refine rowStore (by rfl) 103 _ _ rfl gR rfl (dirA 2 gB) rfl HR.out (dir_info _ _) (dir_sz _ _ _ _ _) (dir_one _ _) ?_; intro w3 ha ho; replace HR := Lib.hid ha; replace HX := keepAo HX HNE.out ho; replace HB := keepBo HB HGR.out ho; clear ha ho))
    exact bodyPost_ret (res1c rfl _ _ gR 103 (dirA 2 gB) (0, 0) _ rfl HR.out Tryd.underlying103 rfl infoDi) rfl ⟨⟨gB, rfl, HG.out, HX.out⟩, HB.out.1⟩
  rw [if_neg e2] at hK
  have q2 : ((bs x).toList == [46, 115, 112, 97, 99, 101]) = false := by rw [toL]; exact beq_eq_false_iff_ne.2 e2
  by_cases e3 : x = [46, 101, 113, 117]
  · rw [if_pos e3] at hK
    have q3 : ((bs x).toList == [46, 101, 113, 117]) = true := by rw [e3, toL]; rfl
    clear e1 e2 e3
    subst hK
    go_enter Tryd.func42, Tryd.ntmps42
    go_upto_region 1 with (first | (refine wlBoxP (by rfl) 63 _ rfl (.pointer (some ⟨s, 0, none⟩)) rfl rfl ?_; intro gB w1 hg hl ha hb; have HG : Hid (w.heap.size ≤ gB) := Lib.hid hg; have HX := Lib.hid ha; replace HB := keepB HB hb; clear hg hl ha hb) | (refine wlAlloc (by rfl) 103 rfl #[.int .i64 0, .int .i64 0, .nilFunc] zeroDi ?_; intro gR w2 hg hl ha hb; have HGR : Hid (w.heap.size ≤ gR) := Lib.hid (Nat.le_trans HB.out.2 hg); have HNE : Hid (gB ≠ gR) := Lib.hid (Nat.ne_of_lt (Nat.lt_of_lt_of_le (Array.getElem?_eq_some_iff.1 HX.out).1 hg)); replace HX := keepA HX hb; replace HB := keepB HB hb; have HR := Lib.hid ha; clear hg hl ha hb))
    go_wp2_with (first | (refine wlBuild rfl 103 #[(0, _), (1, _), (2, _)] rfl (.agg (dirA 3 gB)) (by kernel_rfl) ?_) | (refine rowStore (by rfl) 103 _ _ rfl gR rfl (dirA 3 gB) rfl HR.out (dir_info _ _) (dir_sz _ _ _ _ _) (dir_one _ _) ?_; intro w3 ha ho; replace HR := Lib.hid ha; replace HX := keepAo HX HNE.out ho; replace HB := keepBo HB HGR.out ho; clear ha ho))
    exact bodyPost_ret (res1c rfl _ _ gR 103 (dirA 3 gB) (0, 0) _ rfl HR.out Tryd.underlying103 rfl infoDi) rfl ⟨⟨gB, rfl, HG.out, HX.out⟩, HB.out.1⟩
  rw [if_neg e3] at hK
  have q3 : ((bs x).toList == [46, 101, 113, 117]) = false := by rw [toL]; exact beq_eq_false_iff_ne.2 e3
  by_cases e4 : x = [46, 119, 111, 114, 100]
  · rw [if_pos e4] at hK
    have q4 : ((bs x).toList == [46, 119, 111, 114, 100]) = true := by rw [e4, toL]; rfl
    clear e1 e2 e3 e4
    subst hK
    go_enter Tryd.func42, Tryd.ntmps42
    go_upto_region 1 with (first | (refine wlBoxP (by rfl) 63 _ rfl (.pointer (some ⟨s, 0, none⟩)) rfl rfl ?_; intro gB w1 hg hl ha hb; have HG : Hid (w.heap.size ≤ gB) := Lib.hid hg; have HX := Lib.hid ha; replace HB := keepB HB hb; clear hg hl ha hb) | (refine wlAlloc (by rfl) 103 rfl #[.int .i64 0, .int .i64 0, .nilFunc] zeroDi ?_; intro gR w2 hg hl ha hb; have HGR : Hid (w.heap.size ≤ gR) := Lib.hid (Nat.le_trans HB.out.2 hg); have HNE : Hid (gB ≠ gR) := Lib.hid (Nat.ne_of_lt (Nat.lt_of_lt_of_le (Array.getElem?_eq_some_iff.1 HX.out).1 hg)); replace HX := keepA HX hb; replace HB := keepB HB hb; have HR := Lib.hid ha; clear hg hl ha hb))
    go_wp2_with (first | (refine wlBuild rfl 103 #[(0, _), (1, _), (2, _)] rfl (.agg (dirA 4 gB)) (by kernel_rfl) ?_) | (refine rowStore (by rfl) 103 _ _ rfl gR rfl (dirA 4 gB) rfl HR.out (dir_info _ _) (dir_sz _ _ _ _ _) (dir_one _ _) ?_; intro w3 ha ho; replace HR := Lib.hid ha; replace HX := keepAo HX HNE.out ho; replace HB := keepBo HB HGR.out ho; clear ha ho))
    exact bodyPost_ret (res1c rfl _ _ gR 103 (dirA 4 gB) (0, 0) _ rfl HR.out Tryd.underlying103 rfl infoDi) rfl ⟨⟨gB, rfl, HG.out, HX.out⟩, HB.out.1⟩
  rw [if_neg e4] at hK
  have q4 : ((bs x).toList == [46, 119, 111, 114, 100]) = false := by rw [toL]; exact beq_eq_false_iff_ne.2 e4
  by_cases e5 : x = [46, 98, 121, 116, 101]
  · rw [if_pos e5] at hK
    have q5 : ((bs x).toList == [46, 98, 121, 116, 101]) = true := by rw [e5, toL]; rfl
    clear e1 e2 e3 e4 e5
    subst hK
    go_enter Tryd.func42, Tryd.ntmps42
    go_upto_region 1 with (first | (refine wlBoxP (by rfl) 63 _ rfl (.pointer (some ⟨s, 0, none⟩)) rfl rfl ?_; intro gB w1 hg hl ha hb; have HG : Hid (w.heap.size ≤ gB) := Lib.hid hg; have HX := Lib.hid ha; replace HB := keepB HB hb; clear hg hl ha hb) | (refine wlAlloc (by rfl) 103 rfl #[.int .i64 0, .int .i64 0, .nilFunc] zeroDi ?_; intro gR w2 hg hl ha hb; have HGR : Hid (w.heap.size ≤ gR) := Lib.hid (Nat.le_trans HB.out.2 hg); have HNE : Hid (gB ≠ gR) := Lib.hid (Nat.ne_of_lt (Nat.lt_of_lt_of_le (Array.getElem?_eq_some_iff.1 HX.out).1 hg)); replace HX := keepA HX hb; replace HB := keepB HB hb; have HR := Lib.hid ha; clear hg hl ha hb))
    go_wp2_with (first | (refine wlBuild rfl 103 #[(0, _), (1, _), (2, _)] rfl (.agg (dirA 5 gB)) (by kernel_rfl) ?_) | (refine rowStore (by rfl) 103 _ _ rfl gR rfl (dirA 5 gB) rfl HR.out (dir_info _ _) (dir_sz _ _ _ _ _) (dir_one _ _) ?_; intro w3 ha ho; replace HR := Lib.hid ha; replace HX := keepAo HX HNE.out ho; replace HB := keepBo HB HGR.out ho; clear ha ho))
    exact bodyPost_ret (res1c rfl _ _ gR 103 (dirA 5 gB) (0, 0) _ rfl HR.out Tryd.underlying103 rfl infoDi) rfl ⟨⟨gB, rfl, HG.out, HX.out⟩, HB.out.1⟩
  rw [if_neg e5] at hK
  have q5 : ((bs x).toList == [46, 98, 121, 116, 101]) = false := by rw [toL]; exact beq_eq_false_iff_ne.2 e5
  clear e1 e2 e3 e4 e5
  subst hK
  go_enter Tryd.func42, Tryd.ntmps42
  go_upto_region 1 with (first | (refine wlBoxP (by rfl) 63 _ rfl (.pointer (some ⟨s, 0, none⟩)) rfl rfl ?_; intro gB w1 hg hl ha hb; have HG : Hid (w.heap.size ≤ gB) := Lib.hid hg; have HX := Lib.hid ha; replace HB := keepB HB hb; clear hg hl ha hb) | (refine wlAlloc (by rfl) 103 rfl #[.int .i64 0, .int .i64 0, .nilFunc] zeroDi ?_; intro gR w2 hg hl ha hb; have HGR : Hid (w.heap.size ≤ gR) := Lib.hid (Nat.le_trans HB.out.2 hg); have HNE : Hid (gB ≠ gR) := Lib.hid (Nat.ne_of_lt (Nat.lt_of_lt_of_le (Array.getElem?_eq_some_iff.1 HX.out).1 hg)); replace HX := keepA HX hb; replace HB := keepB HB hb; have HR := Lib.hid ha; clear hg hl ha hb))
  go_wp2_with (first | (refine wlBuild rfl 103 #[] rfl (.agg (dirA 0 gB)) (by kernel_rfl) ?_) | (refine rowStore (by rfl) 103 _ _ rfl gR rfl (dirA 0 gB) rfl HR.out (dir_info _ _) (dir_sz _ _ _ _ _) (dir_one _ _) ?_; intro w3 ha ho; replace HR := Lib.hid ha; replace HX := keepAo HX HNE.out ho; replace HB := keepBo HB HGR.out ho; clear ha ho))
  exact bodyPost_ret (res1c rfl _ _ gR 103 (dirA 0 gB) (0, 0) _ rfl HR.out Tryd.underlying103 rfl infoDi) rfl ⟨⟨gB, rfl, HG.out, HX.out⟩, HB.out.1⟩
end Go.Proofs.YtaclidjhgpkmpaaDoor.My
