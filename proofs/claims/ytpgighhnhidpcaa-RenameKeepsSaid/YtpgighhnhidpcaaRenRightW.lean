/- Walk: whether names are right, by the program. -/
import Derived.Test.YtpgighhnhidpcaaRenDefer
import Derived.Test.YtpgighhnhidpcaaRenSteps
set_option linter.unusedSimpArgs false
set_option linter.unusedVariables false
namespace Go.Proofs.Ytpgighhnhidpcaa.My
open Go.RowKit
section
variable {P : Program} {ops : Array Oper} {Q : Exit → Act → World → Prop} {rest : List Oper} {o : Oper} {a : Act} {w : World}
theorem wlBoxV (hw : Region.wanted o (yielded ops a.tmps) = true) (ty : TypeId) (x : Operand) (ho : o.op = .box ty x) (v : Value) (cs : Array Value) (hx : a.eval x = v) (hc : v.cells = cs)
    (h : ∀ (g : Nat) (w2 : World), w.heap.size ≤ g → g < w2.heap.size → w2.heap[g]? = some (.cells cs ty (0, 0)) → Below w.heap.size w w2 → wpList P ops Q rest (a.put o.dst (.pointer (some ⟨g, 0, none⟩))) w2) : wpList P ops Q (o :: rest) a w :=
  wpList_step fun K hK => by
    rw [if_pos hw]
    have hrun : (execOp a.eval o).run P w = .ok (.value (.pointer (some ⟨w.heap.size, 0, none⟩))) (w.alloc (.cells cs ty)) := by
      unfold execOp
      rw [ho]
      simp only [hx]
      subst hc
      rfl
    unfold Oper.wp
    rw [hrun]
    exact hK _ _ (h _ _ (Nat.le_refl _) (by simp) (heap_alloc_new _ _) ((Below.refl _ _).alloc (Nat.le_refl _) _))
theorem wlAllocV (hw : Region.wanted o (yielded ops a.tmps) = true) (ty : TypeId) (ho : o.op = .alloc ty) (v : Value) (cs : Array Value) (hz : ∀ w, (zeroValue ty).run P w = .ok v w) (hc : v.cells = cs)
    (h : ∀ (g : Nat) (w2 : World), w.heap.size ≤ g → g < w2.heap.size → w2.heap[g]? = some (.cells cs ty (0, 0)) → Below w.heap.size w w2 → wpList P ops Q rest (a.put o.dst (.pointer (some ⟨g, 0, none⟩))) w2) : wpList P ops Q (o :: rest) a w :=
  wpList_step fun K hK => by
    rw [if_pos hw]
    have hrun : (execOp a.eval o).run P w = .ok (.value (.pointer (some ⟨w.heap.size, 0, none⟩))) (w.alloc (.cells cs ty)) := by
      unfold execOp
      rw [ho]
      simp only [Instr.alloc, Sem.run_bind, hz, Result.andThen_ok]
      subst hc
      rfl
    unfold Oper.wp
    rw [hrun]
    exact hK _ _ (h _ _ (Nat.le_refl _) (by simp) (heap_alloc_new _ _) ((Below.refl _ _).alloc (Nat.le_refl _) _))
end
theorem zBo (w : World) : (zeroValue 4).run Try.prog w = .ok (.bool false) w := by kernel_rfl
theorem zFt (w : World) : (zeroValue 80).run Try.prog w = .ok .nilFunc w := by kernel_rfl
theorem zTa (w : World) : (zeroValue 79).run Try.prog w = .ok (.agg (ma .i64 (List.replicate 96 0))) w := by kernel_rfl
theorem infoFt : (Try.prog.info? 80).map (·.size) = some 1 := by kernel_rfl
theorem tmL_nil (n : Int) : tmL n [] = List.replicate 96 0 := by
  apply List.ext_getElem?
  intro i
  unfold tmL
  rw [List.getElem?_map, List.getElem?_replicate]
  by_cases hi : i < 96
  · rw [List.getElem?_range hi, if_pos hi]
    simp
  · rw [List.getElem?_eq_none (by simp; omega), if_neg hi]
    rfl
theorem resRight (tmps : Array Value) (w : World) (g : Nat) (b : Bool) (hp : tmps.getD 6 undef = .pointer (some ⟨g, 0, none⟩)) (hg : w.heap[g]? = some (.cells #[.bool b] 4 (0, 0))) : (results Try.f24 tmps).run Try.prog w = .ok (.bool b) w := by
  have hp' : tmps[6]?.getD undef = .pointer (some ⟨g, 0, none⟩) := by simpa using hp
  have hc : w.cell? ⟨g, 0, none⟩ = some (.bool b) := (cell_of_row w g 0 _ _ _ hg).trans rfl
  simp [results, Try.results24, hp', asAddr, go_sem, hc]
theorem gd_n {v : NmV} {n : Int} {fl : List RenV} (h : n < 17 ∨ 96 < n) : rgP v n fl = false := by
  have : gdB v n = false := by
    unfold gdB
    rcases h with h | h
    · rw [decide_eq_false (show ¬ 17 ≤ n by omega)]; rfl
    · rw [decide_eq_false (show ¬ n ≤ 96 by omega)]; simp
  unfold rgP
  rw [this]
  rfl
theorem gd_m {v : NmV} {n : Int} {fl : List RenV} (h : (Rat.rightB v.m n && (Rat.rightB v.d n && rightB v.xs v.n v.h v.N n)) = false) : rgP v n fl = false := by
  unfold rgP gdB
  rw [h]
  simp
theorem gd_yes {v : NmV} {n : Int} {fl : List RenV} (h1 : 17 ≤ n) (h2 : n ≤ 96) (h : (Rat.rightB v.m n && (Rat.rightB v.d n && rightB v.xs v.n v.h v.N n)) = true) : rgP v n fl = (stP v.s v.m v.d 0 fl && (onesB n.toNat (baseL v ++ (outs fl).reverse) && !stB n (baseL v ++ (outs fl).reverse))) := by
  unfold rgP gdB
  rw [h, decide_eq_true h1, decide_eq_true h2]
  rfl
theorem take_next {K : List Int} {k : Nat} (h : k < K.length) : K.take (k + 1) = K.take k ++ [el K k] := by
  rw [List.take_add_one, List.getElem?_eq_getElem h]
  simp [el, List.getElem?_eq_getElem h]
theorem drop_next {d : List Int} {r : Nat} (h1 : 1 ≤ r) (h : r < d.length) : (d.drop 1).take r = (d.drop 1).take (r - 1) ++ [el d r] := by
  obtain ⟨q, rfl⟩ : ∃ q, r = q + 1 := ⟨r - 1, by omega⟩
  rw [Nat.add_sub_cancel, List.take_add_one, List.getElem?_drop, Nat.add_comm 1 q, List.getElem?_eq_getElem h]
  simp [el, List.getElem?_eq_getElem h]
theorem ma_at {k : IntKind} {d : List Int} {r : Nat} (h : r < d.length) : (ma k d).toList[r]? = some (.int k (el d r)) := by
  rw [ma_toList, List.getElem?_map, List.getElem?_eq_getElem h]
  simp [el, List.getElem?_eq_getElem h]
set_option maxRecDepth 100000 in
set_option maxHeartbeats 4000000 in
theorem right_off (v : NmV) (A B : Option Addr) (c d : Nat) (n : Int) (fl : List RenV) (w : World) (hx : RdA .i64 w A v.n v.xs) (kv : v.Ok) (hl : RwA w B 29 fl.length (fl.map rA)) (hno : n < 17 ∨ 96 < n ∨ (Rat.rightB v.m n && (Rat.rightB v.d n && rightB v.xs v.n v.h v.N n)) = false) : Calls Try.prog 24 #[.agg (nmA v A c), .int .i64 n, .slice B fl.length d] w fun e w' => e = .returned (.bool (rgP v n fl)) ∧ Below w.heap.size w w' := by
  have hF : rgP v n fl = false := by
    rcases hno with h | h | h
    · exact gd_n (.inl h)
    · exact gd_n (.inr h)
    · exact gd_m h
  obtain ⟨B0, hB0⟩ : ∃ B0 : Bool, B0 = false := ⟨false, rfl⟩
  rw [hF]
  have HB := startB w
  have HX := Lib.hid hx
  have HL := Lib.hid hl
  clear hx hl hF hB0 B0
  by_cases h1 : n ≤ 16
  · clear hno
    go_enter_defers Try.func24, Try.ntmps24
    go_wp2_with (first | (refine wlBox rfl 29 _ rfl (nmA v A c) rfl ?_; intro gS w1 hgS hgS' hz hb; have HS := Lib.hid hz; replace HX := Lib.hid (HX.out.below hb); replace HL := Lib.hid (HL.out.below hb); replace HB := keepB HB hb; clear hz hb) | (refine wlBoxV rfl 3 _ rfl (.int .i64 n) #[.int .i64 n] rfl rfl ?_; intro g4 w2 hg4 hg4' hz hb; have H4 := Lib.hid hz; replace HS := keepA HS hb; replace HX := Lib.hid (HX.out.below hb); replace HL := Lib.hid (HL.out.below hb); replace HB := keepB HB hb; clear hz hb) | (refine wlBoxV rfl 33 _ rfl (.slice B fl.length d) #[.slice B fl.length d] rfl rfl ?_; intro g5 w3 hg5 hg5' hz hb; have H5 := Lib.hid hz; replace HS := keepA HS hb; replace H4 := keepA H4 hb; replace HX := Lib.hid (HX.out.below hb); replace HL := Lib.hid (HL.out.below hb); replace HB := keepB HB hb; clear hz hb) | (refine wlAllocV rfl 4 rfl (.bool false) #[.bool false] zBo rfl ?_; intro g6 w4 hg6 hg6' hz hb; have H6 := Lib.hid hz; replace HS := keepA HS hb; replace H4 := keepA H4 hb; replace H5 := keepA H5 hb; replace HX := Lib.hid (HX.out.below hb); replace HL := Lib.hid (HL.out.below hb); replace HB := keepB HB hb; (try clear c4); have c4 := (cellA H4 0).trans rfl; clear hz hb) | (refine partLoad rfl 23 _ rfl gS 0 rfl (nm_map HS.out) Try.underlying23 rfl (szM kv.m) ?_) | (refine partLoad rfl 23 _ rfl gS 16 rfl (nm_done kv.m HS.out) Try.underlying23 rfl (szM kv.d) ?_) | (refine partLoad rfl 26 _ rfl gS 32 rfl (nm_free kv.m kv.d HS.out) Try.underlying26 rfl infoFr ?_) | (have hq := HMD; clear hq; go_at_call 45; refine (Rat.right_any v.d n _ kv.d).mono ?_; rintro e w6 ⟨rfl, hb⟩; rw [hrd]; replace HS := keepA HS hb; replace H4 := keepA H4 hb; replace H5 := keepA H5 hb; replace H6 := keepA H6 hb; replace HX := Lib.hid (HX.out.below hb); replace HL := Lib.hid (HL.out.below hb); replace HB := keepB HB hb; (try clear c4); have c4 := (cellA H4 0).trans rfl; clear hb) | (go_at_call 45; refine (Rat.right_any v.m n _ kv.m).mono ?_; rintro e w5 ⟨rfl, hb⟩; rw [hrm]; replace HS := keepA HS hb; replace H4 := keepA H4 hb; replace H5 := keepA H5 hb; replace H6 := keepA H6 hb; replace HX := Lib.hid (HX.out.below hb); replace HL := Lib.hid (HL.out.below hb); replace HB := keepB HB hb; (try clear c4); have c4 := (cellA H4 0).trans rfl; clear hb; have HMD := Lib.hid True.intro) | (go_at_call 46; refine (right_any A v.n c v.h v.N n v.xs _ HX.out kv.n).mono ?_; rintro e w7 ⟨rfl, hb⟩; rw [hrf]; replace HS := keepA HS hb; replace H4 := keepA H4 hb; replace H5 := keepA H5 hb; replace H6 := keepA H6 hb; replace HX := Lib.hid (HX.out.below hb); replace HL := Lib.hid (HL.out.below hb); replace HB := keepB HB hb; (try clear c4); have c4 := (cellA H4 0).trans rfl; clear hb) | (refine cellStore rfl 4 _ _ rfl g6 0 rfl (.bool false) rfl rfl rfl H6.out (by simp) infoBo ?_; intro w8 hz ho; replace HB := keepBo HB (by omega) ho; clear H6; have H6 : Hid (w8.heap[g6]? = some (.cells #[.bool false] 4 (0, 0))) := Lib.hid hz; clear hz ho))
    exact ⟨_, resRight _ _ g6 false rfl H6.out, rfl, HB.out.1⟩
  · by_cases h2 : 96 < n
    · clear hno
      go_enter_defers Try.func24, Try.ntmps24
      go_wp2_with (first | (refine wlBox rfl 29 _ rfl (nmA v A c) rfl ?_; intro gS w1 hgS hgS' hz hb; have HS := Lib.hid hz; replace HX := Lib.hid (HX.out.below hb); replace HL := Lib.hid (HL.out.below hb); replace HB := keepB HB hb; clear hz hb) | (refine wlBoxV rfl 3 _ rfl (.int .i64 n) #[.int .i64 n] rfl rfl ?_; intro g4 w2 hg4 hg4' hz hb; have H4 := Lib.hid hz; replace HS := keepA HS hb; replace HX := Lib.hid (HX.out.below hb); replace HL := Lib.hid (HL.out.below hb); replace HB := keepB HB hb; clear hz hb) | (refine wlBoxV rfl 33 _ rfl (.slice B fl.length d) #[.slice B fl.length d] rfl rfl ?_; intro g5 w3 hg5 hg5' hz hb; have H5 := Lib.hid hz; replace HS := keepA HS hb; replace H4 := keepA H4 hb; replace HX := Lib.hid (HX.out.below hb); replace HL := Lib.hid (HL.out.below hb); replace HB := keepB HB hb; clear hz hb) | (refine wlAllocV rfl 4 rfl (.bool false) #[.bool false] zBo rfl ?_; intro g6 w4 hg6 hg6' hz hb; have H6 := Lib.hid hz; replace HS := keepA HS hb; replace H4 := keepA H4 hb; replace H5 := keepA H5 hb; replace HX := Lib.hid (HX.out.below hb); replace HL := Lib.hid (HL.out.below hb); replace HB := keepB HB hb; (try clear c4); have c4 := (cellA H4 0).trans rfl; clear hz hb) | (refine partLoad rfl 23 _ rfl gS 0 rfl (nm_map HS.out) Try.underlying23 rfl (szM kv.m) ?_) | (refine partLoad rfl 23 _ rfl gS 16 rfl (nm_done kv.m HS.out) Try.underlying23 rfl (szM kv.d) ?_) | (refine partLoad rfl 26 _ rfl gS 32 rfl (nm_free kv.m kv.d HS.out) Try.underlying26 rfl infoFr ?_) | (have hq := HMD; clear hq; go_at_call 45; refine (Rat.right_any v.d n _ kv.d).mono ?_; rintro e w6 ⟨rfl, hb⟩; rw [hrd]; replace HS := keepA HS hb; replace H4 := keepA H4 hb; replace H5 := keepA H5 hb; replace H6 := keepA H6 hb; replace HX := Lib.hid (HX.out.below hb); replace HL := Lib.hid (HL.out.below hb); replace HB := keepB HB hb; (try clear c4); have c4 := (cellA H4 0).trans rfl; clear hb) | (go_at_call 45; refine (Rat.right_any v.m n _ kv.m).mono ?_; rintro e w5 ⟨rfl, hb⟩; rw [hrm]; replace HS := keepA HS hb; replace H4 := keepA H4 hb; replace H5 := keepA H5 hb; replace H6 := keepA H6 hb; replace HX := Lib.hid (HX.out.below hb); replace HL := Lib.hid (HL.out.below hb); replace HB := keepB HB hb; (try clear c4); have c4 := (cellA H4 0).trans rfl; clear hb; have HMD := Lib.hid True.intro) | (go_at_call 46; refine (right_any A v.n c v.h v.N n v.xs _ HX.out kv.n).mono ?_; rintro e w7 ⟨rfl, hb⟩; rw [hrf]; replace HS := keepA HS hb; replace H4 := keepA H4 hb; replace H5 := keepA H5 hb; replace H6 := keepA H6 hb; replace HX := Lib.hid (HX.out.below hb); replace HL := Lib.hid (HL.out.below hb); replace HB := keepB HB hb; (try clear c4); have c4 := (cellA H4 0).trans rfl; clear hb) | (refine cellStore rfl 4 _ _ rfl g6 0 rfl (.bool false) rfl rfl rfl H6.out (by simp) infoBo ?_; intro w8 hz ho; replace HB := keepBo HB (by omega) ho; clear H6; have H6 : Hid (w8.heap[g6]? = some (.cells #[.bool false] 4 (0, 0))) := Lib.hid hz; clear hz ho))
      exact ⟨_, resRight _ _ g6 false rfl H6.out, rfl, HB.out.1⟩
    · have h3 := (hno.resolve_left (by omega)).resolve_left h2
      clear hno
      cases hrm : Rat.rightB v.m n with
      | false =>
        clear h3
        go_enter_defers Try.func24, Try.ntmps24
        go_wp2_with (first | (refine wlBox rfl 29 _ rfl (nmA v A c) rfl ?_; intro gS w1 hgS hgS' hz hb; have HS := Lib.hid hz; replace HX := Lib.hid (HX.out.below hb); replace HL := Lib.hid (HL.out.below hb); replace HB := keepB HB hb; clear hz hb) | (refine wlBoxV rfl 3 _ rfl (.int .i64 n) #[.int .i64 n] rfl rfl ?_; intro g4 w2 hg4 hg4' hz hb; have H4 := Lib.hid hz; replace HS := keepA HS hb; replace HX := Lib.hid (HX.out.below hb); replace HL := Lib.hid (HL.out.below hb); replace HB := keepB HB hb; clear hz hb) | (refine wlBoxV rfl 33 _ rfl (.slice B fl.length d) #[.slice B fl.length d] rfl rfl ?_; intro g5 w3 hg5 hg5' hz hb; have H5 := Lib.hid hz; replace HS := keepA HS hb; replace H4 := keepA H4 hb; replace HX := Lib.hid (HX.out.below hb); replace HL := Lib.hid (HL.out.below hb); replace HB := keepB HB hb; clear hz hb) | (refine wlAllocV rfl 4 rfl (.bool false) #[.bool false] zBo rfl ?_; intro g6 w4 hg6 hg6' hz hb; have H6 := Lib.hid hz; replace HS := keepA HS hb; replace H4 := keepA H4 hb; replace H5 := keepA H5 hb; replace HX := Lib.hid (HX.out.below hb); replace HL := Lib.hid (HL.out.below hb); replace HB := keepB HB hb; (try clear c4); have c4 := (cellA H4 0).trans rfl; clear hz hb) | (refine partLoad rfl 23 _ rfl gS 0 rfl (nm_map HS.out) Try.underlying23 rfl (szM kv.m) ?_) | (refine partLoad rfl 23 _ rfl gS 16 rfl (nm_done kv.m HS.out) Try.underlying23 rfl (szM kv.d) ?_) | (refine partLoad rfl 26 _ rfl gS 32 rfl (nm_free kv.m kv.d HS.out) Try.underlying26 rfl infoFr ?_) | (have hq := HMD; clear hq; go_at_call 45; refine (Rat.right_any v.d n _ kv.d).mono ?_; rintro e w6 ⟨rfl, hb⟩; rw [hrd]; replace HS := keepA HS hb; replace H4 := keepA H4 hb; replace H5 := keepA H5 hb; replace H6 := keepA H6 hb; replace HX := Lib.hid (HX.out.below hb); replace HL := Lib.hid (HL.out.below hb); replace HB := keepB HB hb; (try clear c4); have c4 := (cellA H4 0).trans rfl; clear hb) | (go_at_call 45; refine (Rat.right_any v.m n _ kv.m).mono ?_; rintro e w5 ⟨rfl, hb⟩; rw [hrm]; replace HS := keepA HS hb; replace H4 := keepA H4 hb; replace H5 := keepA H5 hb; replace H6 := keepA H6 hb; replace HX := Lib.hid (HX.out.below hb); replace HL := Lib.hid (HL.out.below hb); replace HB := keepB HB hb; (try clear c4); have c4 := (cellA H4 0).trans rfl; clear hb; have HMD := Lib.hid True.intro) | (go_at_call 46; refine (right_any A v.n c v.h v.N n v.xs _ HX.out kv.n).mono ?_; rintro e w7 ⟨rfl, hb⟩; rw [hrf]; replace HS := keepA HS hb; replace H4 := keepA H4 hb; replace H5 := keepA H5 hb; replace H6 := keepA H6 hb; replace HX := Lib.hid (HX.out.below hb); replace HL := Lib.hid (HL.out.below hb); replace HB := keepB HB hb; (try clear c4); have c4 := (cellA H4 0).trans rfl; clear hb) | (refine cellStore rfl 4 _ _ rfl g6 0 rfl (.bool false) rfl rfl rfl H6.out (by simp) infoBo ?_; intro w8 hz ho; replace HB := keepBo HB (by omega) ho; clear H6; have H6 : Hid (w8.heap[g6]? = some (.cells #[.bool false] 4 (0, 0))) := Lib.hid hz; clear hz ho))
        exact ⟨_, resRight _ _ g6 false rfl H6.out, rfl, HB.out.1⟩
      | true =>
        cases hrd : Rat.rightB v.d n with
        | false =>
          clear h3
          go_enter_defers Try.func24, Try.ntmps24
          go_wp2_with (first | (refine wlBox rfl 29 _ rfl (nmA v A c) rfl ?_; intro gS w1 hgS hgS' hz hb; have HS := Lib.hid hz; replace HX := Lib.hid (HX.out.below hb); replace HL := Lib.hid (HL.out.below hb); replace HB := keepB HB hb; clear hz hb) | (refine wlBoxV rfl 3 _ rfl (.int .i64 n) #[.int .i64 n] rfl rfl ?_; intro g4 w2 hg4 hg4' hz hb; have H4 := Lib.hid hz; replace HS := keepA HS hb; replace HX := Lib.hid (HX.out.below hb); replace HL := Lib.hid (HL.out.below hb); replace HB := keepB HB hb; clear hz hb) | (refine wlBoxV rfl 33 _ rfl (.slice B fl.length d) #[.slice B fl.length d] rfl rfl ?_; intro g5 w3 hg5 hg5' hz hb; have H5 := Lib.hid hz; replace HS := keepA HS hb; replace H4 := keepA H4 hb; replace HX := Lib.hid (HX.out.below hb); replace HL := Lib.hid (HL.out.below hb); replace HB := keepB HB hb; clear hz hb) | (refine wlAllocV rfl 4 rfl (.bool false) #[.bool false] zBo rfl ?_; intro g6 w4 hg6 hg6' hz hb; have H6 := Lib.hid hz; replace HS := keepA HS hb; replace H4 := keepA H4 hb; replace H5 := keepA H5 hb; replace HX := Lib.hid (HX.out.below hb); replace HL := Lib.hid (HL.out.below hb); replace HB := keepB HB hb; (try clear c4); have c4 := (cellA H4 0).trans rfl; clear hz hb) | (refine partLoad rfl 23 _ rfl gS 0 rfl (nm_map HS.out) Try.underlying23 rfl (szM kv.m) ?_) | (refine partLoad rfl 23 _ rfl gS 16 rfl (nm_done kv.m HS.out) Try.underlying23 rfl (szM kv.d) ?_) | (refine partLoad rfl 26 _ rfl gS 32 rfl (nm_free kv.m kv.d HS.out) Try.underlying26 rfl infoFr ?_) | (have hq := HMD; clear hq; go_at_call 45; refine (Rat.right_any v.d n _ kv.d).mono ?_; rintro e w6 ⟨rfl, hb⟩; rw [hrd]; replace HS := keepA HS hb; replace H4 := keepA H4 hb; replace H5 := keepA H5 hb; replace H6 := keepA H6 hb; replace HX := Lib.hid (HX.out.below hb); replace HL := Lib.hid (HL.out.below hb); replace HB := keepB HB hb; (try clear c4); have c4 := (cellA H4 0).trans rfl; clear hb) | (go_at_call 45; refine (Rat.right_any v.m n _ kv.m).mono ?_; rintro e w5 ⟨rfl, hb⟩; rw [hrm]; replace HS := keepA HS hb; replace H4 := keepA H4 hb; replace H5 := keepA H5 hb; replace H6 := keepA H6 hb; replace HX := Lib.hid (HX.out.below hb); replace HL := Lib.hid (HL.out.below hb); replace HB := keepB HB hb; (try clear c4); have c4 := (cellA H4 0).trans rfl; clear hb; have HMD := Lib.hid True.intro) | (go_at_call 46; refine (right_any A v.n c v.h v.N n v.xs _ HX.out kv.n).mono ?_; rintro e w7 ⟨rfl, hb⟩; rw [hrf]; replace HS := keepA HS hb; replace H4 := keepA H4 hb; replace H5 := keepA H5 hb; replace H6 := keepA H6 hb; replace HX := Lib.hid (HX.out.below hb); replace HL := Lib.hid (HL.out.below hb); replace HB := keepB HB hb; (try clear c4); have c4 := (cellA H4 0).trans rfl; clear hb) | (refine cellStore rfl 4 _ _ rfl g6 0 rfl (.bool false) rfl rfl rfl H6.out (by simp) infoBo ?_; intro w8 hz ho; replace HB := keepBo HB (by omega) ho; clear H6; have H6 : Hid (w8.heap[g6]? = some (.cells #[.bool false] 4 (0, 0))) := Lib.hid hz; clear hz ho))
          exact ⟨_, resRight _ _ g6 false rfl H6.out, rfl, HB.out.1⟩
        | true =>
          have hrf : rightB v.xs v.n v.h v.N n = false := by rw [hrm, hrd] at h3; exact h3
          clear h3
          go_enter_defers Try.func24, Try.ntmps24
          go_wp2_with (first | (refine wlBox rfl 29 _ rfl (nmA v A c) rfl ?_; intro gS w1 hgS hgS' hz hb; have HS := Lib.hid hz; replace HX := Lib.hid (HX.out.below hb); replace HL := Lib.hid (HL.out.below hb); replace HB := keepB HB hb; clear hz hb) | (refine wlBoxV rfl 3 _ rfl (.int .i64 n) #[.int .i64 n] rfl rfl ?_; intro g4 w2 hg4 hg4' hz hb; have H4 := Lib.hid hz; replace HS := keepA HS hb; replace HX := Lib.hid (HX.out.below hb); replace HL := Lib.hid (HL.out.below hb); replace HB := keepB HB hb; clear hz hb) | (refine wlBoxV rfl 33 _ rfl (.slice B fl.length d) #[.slice B fl.length d] rfl rfl ?_; intro g5 w3 hg5 hg5' hz hb; have H5 := Lib.hid hz; replace HS := keepA HS hb; replace H4 := keepA H4 hb; replace HX := Lib.hid (HX.out.below hb); replace HL := Lib.hid (HL.out.below hb); replace HB := keepB HB hb; clear hz hb) | (refine wlAllocV rfl 4 rfl (.bool false) #[.bool false] zBo rfl ?_; intro g6 w4 hg6 hg6' hz hb; have H6 := Lib.hid hz; replace HS := keepA HS hb; replace H4 := keepA H4 hb; replace H5 := keepA H5 hb; replace HX := Lib.hid (HX.out.below hb); replace HL := Lib.hid (HL.out.below hb); replace HB := keepB HB hb; (try clear c4); have c4 := (cellA H4 0).trans rfl; clear hz hb) | (refine partLoad rfl 23 _ rfl gS 0 rfl (nm_map HS.out) Try.underlying23 rfl (szM kv.m) ?_) | (refine partLoad rfl 23 _ rfl gS 16 rfl (nm_done kv.m HS.out) Try.underlying23 rfl (szM kv.d) ?_) | (refine partLoad rfl 26 _ rfl gS 32 rfl (nm_free kv.m kv.d HS.out) Try.underlying26 rfl infoFr ?_) | (have hq := HMD; clear hq; go_at_call 45; refine (Rat.right_any v.d n _ kv.d).mono ?_; rintro e w6 ⟨rfl, hb⟩; rw [hrd]; replace HS := keepA HS hb; replace H4 := keepA H4 hb; replace H5 := keepA H5 hb; replace H6 := keepA H6 hb; replace HX := Lib.hid (HX.out.below hb); replace HL := Lib.hid (HL.out.below hb); replace HB := keepB HB hb; (try clear c4); have c4 := (cellA H4 0).trans rfl; clear hb) | (go_at_call 45; refine (Rat.right_any v.m n _ kv.m).mono ?_; rintro e w5 ⟨rfl, hb⟩; rw [hrm]; replace HS := keepA HS hb; replace H4 := keepA H4 hb; replace H5 := keepA H5 hb; replace H6 := keepA H6 hb; replace HX := Lib.hid (HX.out.below hb); replace HL := Lib.hid (HL.out.below hb); replace HB := keepB HB hb; (try clear c4); have c4 := (cellA H4 0).trans rfl; clear hb; have HMD := Lib.hid True.intro) | (go_at_call 46; refine (right_any A v.n c v.h v.N n v.xs _ HX.out kv.n).mono ?_; rintro e w7 ⟨rfl, hb⟩; rw [hrf]; replace HS := keepA HS hb; replace H4 := keepA H4 hb; replace H5 := keepA H5 hb; replace H6 := keepA H6 hb; replace HX := Lib.hid (HX.out.below hb); replace HL := Lib.hid (HL.out.below hb); replace HB := keepB HB hb; (try clear c4); have c4 := (cellA H4 0).trans rfl; clear hb) | (refine cellStore rfl 4 _ _ rfl g6 0 rfl (.bool false) rfl rfl rfl H6.out (by simp) infoBo ?_; intro w8 hz ho; replace HB := keepBo HB (by omega) ho; clear H6; have H6 : Hid (w8.heap[g6]? = some (.cells #[.bool false] 4 (0, 0))) := Lib.hid hz; clear hz ho))
          exact ⟨_, resRight _ _ g6 false rfl H6.out, rfl, HB.out.1⟩
end Go.Proofs.Ytpgighhnhidpcaa.My
