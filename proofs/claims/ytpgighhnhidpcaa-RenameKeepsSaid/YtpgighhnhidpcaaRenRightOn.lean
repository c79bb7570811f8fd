/- Walk: whether names are right, by the program: behind the first questions. -/
import Derived.Test.YtpgighhnhidpcaaRenRightW
import Derived.Test.YtpgighhnhidpcaaRenListOwn
set_option linter.unusedSimpArgs false
set_option linter.unusedVariables false
namespace Go.Proofs.Ytpgighhnhidpcaa.My
open Go.RowKit
set_option maxRecDepth 100000 in
set_option maxHeartbeats 8000000 in
theorem right_on (v : NmV) (A B : Option Addr) (c d : Nat) (n : Int) (fl : List RenV) (w : World) (hx : RdA .i64 w A v.n v.xs) (kv : v.Ok) (hl : RwA w B 29 fl.length (fl.map rA)) (hfl : fl.length ≤ 100) (h17 : ¬ n ≤ 16) (h96' : ¬ 96 < n) (hrm : Rat.rightB v.m n = true) (hrd : Rat.rightB v.d n = true) (hrf : rightB v.xs v.n v.h v.N n = true) : Calls Try.prog 24 #[.agg (nmA v A c), .int .i64 n, .slice B fl.length d] w fun e w' => e = .returned (.bool (rgP v n fl)) ∧ Below w.heap.size w w' := by
  have h96 : n ≤ 96 := by omega
  have H17 : Hid (17 ≤ n) := Lib.hid (by omega)
  rw [gd_yes (by omega) h96 (by rw [hrm, hrd, hrf]; rfl)]
  obtain ⟨sp, hsp⟩ : ∃ sp, stP v.s v.m v.d 0 fl = sp := ⟨_, rfl⟩
  obtain ⟨KL, hK⟩ : ∃ KL, ringL v.xs v.n v.h v.N = KL := ⟨_, rfl⟩
  have hKl : KL.length ≤ 96 := by rw [← hK]; exact ring_le2 _ _ _ _
  have hbase : baseL v = KL ++ v.d.drop 1 := by unfold baseL; rw [hK]
  rw [hsp, hbase]
  have HSP := Lib.hid hsp
  have HK := Lib.hid hK
  have HB := startB w
  have HX := Lib.hid hx
  have HL := Lib.hid hl
  have HXS := Lib.hid hx.lt
  have HLS := Lib.hid hl.lt
  have hd16 : v.d.length = 16 := kv.d
  have HD16 := Lib.hid hd16
  clear hx hl hsp hK hbase hd16
  have hmf : ∀ (fn : Fn) (first cap : Array Value) (w : World), (Instr.makeFunc fn first cap).run Try.prog w = .ok (.func fn first cap) w := fun _ _ _ _ => rfl
  go_enter_defers Try.func24, Try.ntmps24
  go_wp2_with (first | (refine wlBox rfl 29 _ rfl (nmA v A c) rfl ?_; intro gS w1 hgS hgS' hz hb; have HS := Lib.hid hz; replace HX := Lib.hid (HX.out.below hb); replace HL := Lib.hid (HL.out.below hb); replace HB := keepB HB hb; clear hz hb) | (refine wlBoxV rfl 3 _ rfl (.int .i64 n) #[.int .i64 n] rfl rfl ?_; intro g4 w2 hg4 hg4' hz hb; have H4 := Lib.hid hz; replace HS := keepA HS hb; replace HX := Lib.hid (HX.out.below hb); replace HL := Lib.hid (HL.out.below hb); replace HB := keepB HB hb; clear hz hb) | (refine wlBoxV rfl 33 _ rfl (.slice B fl.length d) #[.slice B fl.length d] rfl rfl ?_; intro g5 w3 hg5 hg5' hz hb; have H5 := Lib.hid hz; replace HS := keepA HS hb; replace H4 := keepA H4 hb; replace HX := Lib.hid (HX.out.below hb); replace HL := Lib.hid (HL.out.below hb); replace HB := keepB HB hb; clear hz hb) | (have hq := H7; clear hq; refine wlAllocV rfl 4 rfl (.bool false) #[.bool false] zBo rfl ?_; intro g8 w10 hg8 hg8' hz hb; have h78 : g7 < g8 := Nat.lt_of_lt_of_le (Array.getElem?_eq_some_iff.1 H7.out).1 hg8; replace HS := keepA HS hb; replace H4 := keepA H4 hb; replace H5 := keepA H5 hb; replace H6 := keepA H6 hb; replace HX := Lib.hid (HX.out.below hb); replace HL := Lib.hid (HL.out.below hb); replace HB := keepB HB hb; (try replace H7 := keepA H7 hb); (try replace H8 := keepA H8 hb); (try replace H9 := keepA H9 hb); have H8 := Lib.hid hz; clear hz hb) | (refine wlAllocV rfl 4 rfl (.bool false) #[.bool false] zBo rfl ?_; intro g6 w4 hg6 hg6' hz hb; have H6 := Lib.hid hz; replace HS := keepA HS hb; replace H4 := keepA H4 hb; replace H5 := keepA H5 hb; replace HX := Lib.hid (HX.out.below hb); replace HL := Lib.hid (HL.out.below hb); replace HB := keepB HB hb; (try clear c4); have c4 := (cellA H4 0).trans rfl; clear hz hb) | (refine partLoad rfl 23 _ rfl gS 0 rfl (nm_map HS.out) Try.underlying23 rfl (szM kv.m) ?_) | (refine partLoad rfl 23 _ rfl gS 16 rfl (nm_done kv.m HS.out) Try.underlying23 rfl (szM kv.d) ?_) | (refine partLoad rfl 26 _ rfl gS 32 rfl (nm_free kv.m kv.d HS.out) Try.underlying26 rfl infoFr ?_) | (have hq := HMD; clear hq; go_at_call 45; refine (Rat.right_any v.d n _ kv.d).mono ?_; rintro e w6 ⟨rfl, hb⟩; rw [hrd]; replace HS := keepA HS hb; replace H4 := keepA H4 hb; replace H5 := keepA H5 hb; replace H6 := keepA H6 hb; replace HX := Lib.hid (HX.out.below hb); replace HL := Lib.hid (HL.out.below hb); replace HB := keepB HB hb; (try clear c4); have c4 := (cellA H4 0).trans rfl; clear hb) | (go_at_call 45; refine (Rat.right_any v.m n _ kv.m).mono ?_; rintro e w5 ⟨rfl, hb⟩; rw [hrm]; replace HS := keepA HS hb; replace H4 := keepA H4 hb; replace H5 := keepA H5 hb; replace H6 := keepA H6 hb; replace HX := Lib.hid (HX.out.below hb); replace HL := Lib.hid (HL.out.below hb); replace HB := keepB HB hb; (try clear c4); have c4 := (cellA H4 0).trans rfl; clear hb; have HMD := Lib.hid True.intro) | (go_at_call 46; refine (right_any A v.n c v.h v.N n v.xs _ HX.out kv.n).mono ?_; rintro e w7 ⟨rfl, hb⟩; rw [hrf]; replace HS := keepA HS hb; replace H4 := keepA H4 hb; replace H5 := keepA H5 hb; replace H6 := keepA H6 hb; replace HX := Lib.hid (HX.out.below hb); replace HL := Lib.hid (HL.out.below hb); replace HB := keepB HB hb; (try clear c4); have c4 := (cellA H4 0).trans rfl; clear hb) | (refine wlAllocV rfl 79 rfl (.agg (ma .i64 (List.replicate 96 0))) (ma .i64 (List.replicate 96 0)) zTa rfl ?_; intro g7 w9 hg7 hg7' hz hb; have h67 : g6 < g7 := Nat.lt_of_lt_of_le (Array.getElem?_eq_some_iff.1 H6.out).1 hg7; replace HS := keepA HS hb; replace H4 := keepA H4 hb; replace H5 := keepA H5 hb; replace H6 := keepA H6 hb; replace HX := Lib.hid (HX.out.below hb); replace HL := Lib.hid (HL.out.below hb); replace HB := keepB HB hb; have H7 := Lib.hid hz; clear hz hb) | (refine cellStore rfl 4 _ _ rfl g8 0 rfl (.bool false) rfl rfl rfl H8.out (by simp) infoBo ?_; intro w11 hz ho; replace HS := keepAo HS (by omega) ho; replace H4 := keepAo H4 (by omega) ho; replace H5 := keepAo H5 (by omega) ho; replace H6 := keepAo H6 (by omega) ho; replace H7 := keepAo H7 (by omega) ho; replace HX := Lib.hid (HX.out.only2 ho (fun a e1 e2 => by have := HXS.out a e1 e2; omega)); replace HL := Lib.hid (HL.out.only2 ho (fun a e1 e2 => by have := HLS.out a e1 e2; omega)); replace HB := keepBo HB (by omega) ho; clear H8; have H8 : Hid (w11.heap[g8]? = some (.cells #[.bool false] 4 (0, 0))) := Lib.hid hz; clear hz ho) | (refine wlAllocV rfl 80 rfl .nilFunc #[.nilFunc] zFt rfl ?_; intro g9 w12 hg9 hg9' hz hb; have h89 : g8 < g9 := Nat.lt_of_lt_of_le (Array.getElem?_eq_some_iff.1 H8.out).1 hg9; replace HS := keepA HS hb; replace H4 := keepA H4 hb; replace H5 := keepA H5 hb; replace H6 := keepA H6 hb; replace HX := Lib.hid (HX.out.below hb); replace HL := Lib.hid (HL.out.below hb); replace HB := keepB HB hb; (try replace H7 := keepA H7 hb); (try replace H8 := keepA H8 hb); (try replace H9 := keepA H9 hb); have H9 := Lib.hid hz; clear hz hb) | (refine cellStore rfl 80 _ _ rfl g9 0 rfl (.func (.func 47) #[] #[.pointer (some ⟨g4, 0, none⟩), .pointer (some ⟨g8, 0, none⟩), .pointer (some ⟨g7, 0, none⟩)]) rfl rfl rfl H9.out (by simp) infoFt ?_; intro w13 hz ho; replace HS := keepAo HS (by omega) ho; replace H4 := keepAo H4 (by omega) ho; replace H5 := keepAo H5 (by omega) ho; replace H6 := keepAo H6 (by omega) ho; replace H7 := keepAo H7 (by omega) ho; replace H8 := keepAo H8 (by omega) ho; replace HX := Lib.hid (HX.out.only2 ho (fun a e1 e2 => by have := HXS.out a e1 e2; omega)); replace HL := Lib.hid (HL.out.only2 ho (fun a e1 e2 => by have := HLS.out a e1 e2; omega)); replace HB := keepBo HB (by omega) ho; clear H9; have H9 : Hid (w13.heap[g9]? = some (.cells #[(.func (.func 47) #[] #[.pointer (some ⟨g4, 0, none⟩), .pointer (some ⟨g8, 0, none⟩), .pointer (some ⟨g7, 0, none⟩)])] 80 (0, 0))) := Lib.hid hz; clear hz ho) | (go_at_call 23; refine (list_fresh A v.n c v.h v.N v.xs _ HX.out kv.n).mono ?_; rintro e w14 ⟨A1, cL, rfl, hr, hf, hb⟩; rw [HK.out] at hr ⊢; have hlt : g9 + 1 ≤ _ := (Array.getElem?_eq_some_iff.1 H9.out).1; have HKS := Lib.hid (Fresh.mono hf hlt); clear hlt hf; replace HS := keepA HS hb; replace H4 := keepA H4 hb; replace H5 := keepA H5 hb; replace H6 := keepA H6 hb; replace HX := Lib.hid (HX.out.below hb); replace HL := Lib.hid (HL.out.below hb); replace HB := keepB HB hb; (try replace H7 := keepA H7 hb); (try replace H8 := keepA H8 hb); (try replace H9 := keepA H9 hb); have HK1 := Lib.hid hr; clear hr hb))
  have h7z : Hid (_ = _) := Lib.hid (tmL_nil n)
  go_loopg [46] KL.length (fun gk i wr => ∃ k : Nat, k + gk = KL.length ∧ i = .int .i64 k ∧ Hid (wr.heap[g7]? = some (.cells (ma .i64 (tmL n (KL.take k))) 79 (0, 0))) ∧ Hid (wr.heap[g8]? = some (.cells #[.bool (stB n (KL.take k))] 4 (0, 0))) ∧ Hid (RdA .i64 wr A1 KL.length KL) ∧ Hid (wr.heap[gS]? = some (.cells (nmA v A c) 29 (0, 0))) ∧ Hid (wr.heap[g4]? = some (.cells #[.int .i64 n] 3 (0, 0))) ∧ Hid (wr.heap[g5]? = some (.cells #[.slice B fl.length d] 33 (0, 0))) ∧ Hid (wr.heap[g6]? = some (.cells #[.bool false] 4 (0, 0))) ∧ Hid (wr.heap[g9]? = some (.cells #[(.func (.func 47) #[] #[.pointer (some ⟨g4, 0, none⟩), .pointer (some ⟨g8, 0, none⟩), .pointer (some ⟨g7, 0, none⟩)])] 80 (0, 0))) ∧ Hid (RwA wr B 29 fl.length (fl.map rA)) ∧ Hid (Below w.heap.size w wr ∧ w.heap.size ≤ wr.heap.size))
  case atStart => exact ⟨0, by omega, rfl, by rw [List.take_zero, h7z.out]; exact H7, H8, HK1, HS, H4, H5, H6, H9, HL, HB⟩
  case round =>
    clear HS H4 H5 H6 H7 H8 H9 HK1 HL HB HX
    obtain ⟨k, hk, rfl, H7, H8, HK1, HS, H4, H5, H6, H9, HL, HB⟩ := hrel
    by_cases hlt : k < KL.length
    · obtain ⟨bK, oK, rfl, hcK⟩ := HK1.out.2 (by omega)
      have e1 := hcK k hlt
      have HTN := Lib.hid (take_next hlt)
      clear hcK
      (try clear c9); have c9 := (cellA H9 0).trans rfl
      go_wp2_with (first | (go_at_call 47; refine (one_cl g4 g8 g7 n (el KL k) (KL.take k) _ H4.out H8.out H7.out (by omega) h96 (by rw [List.length_take]; omega)).mono ?_; rintro e w15 ⟨rfl, hg, ht, ho⟩; replace HS := keepA2 HS ho (by omega) (by omega); replace H4 := keepA2 H4 ho (by omega) (by omega); replace H5 := keepA2 H5 ho (by omega) (by omega); replace H6 := keepA2 H6 ho (by omega) (by omega); replace H9 := keepA2 H9 ho (by omega) (by omega); replace HL := Lib.hid (HL.out.two ho (fun a e1 e2 => by have := HLS.out a e1 e2; omega)); replace HB := keepB2 HB ho (by omega) (by omega); clear H7 H8; have H8 := Lib.hid hg; have H7 := Lib.hid ht; clear hg ht; replace HK1 := Lib.hid (HK1.out.two ho (fun a e1 e2 => by have := HKS.out a e1; omega)); clear ho; (try clear c9)))
      go_roundg (KL.length - (k + 1))
      case rel => exact ⟨k + 1, by omega, by go_num, by rw [HTN.out]; exact H7, by rw [HTN.out]; exact H8, HK1, HS, H4, H5, H6, H9, HL, HB⟩
      case measure => omega
    · obtain rfl : k = KL.length := by omega
      clear HK1 HKS
      replace H7 : Hid (wr.heap[g7]? = some (.cells (ma .i64 (tmL n KL)) 79 (0, 0))) := by rw [List.take_length] at H7; exact H7
      replace H8 : Hid (wr.heap[g8]? = some (.cells #[.bool (stB n KL)] 4 (0, 0))) := by rw [List.take_length] at H8; exact H8
      go_wp2
      go_loopg [12] 15 (fun gk i wr => ∃ r : Nat, r + gk = 16 ∧ 1 ≤ r ∧ i = .int .i64 r ∧ Hid (wr.heap[g7]? = some (.cells (ma .i64 (tmL n (KL ++ (v.d.drop 1).take (r - 1)))) 79 (0, 0))) ∧ Hid (wr.heap[g8]? = some (.cells #[.bool (stB n (KL ++ (v.d.drop 1).take (r - 1)))] 4 (0, 0))) ∧ Hid (wr.heap[gS]? = some (.cells (nmA v A c) 29 (0, 0))) ∧ Hid (wr.heap[g4]? = some (.cells #[.int .i64 n] 3 (0, 0))) ∧ Hid (wr.heap[g5]? = some (.cells #[.slice B fl.length d] 33 (0, 0))) ∧ Hid (wr.heap[g6]? = some (.cells #[.bool false] 4 (0, 0))) ∧ Hid (wr.heap[g9]? = some (.cells #[(.func (.func 47) #[] #[.pointer (some ⟨g4, 0, none⟩), .pointer (some ⟨g8, 0, none⟩), .pointer (some ⟨g7, 0, none⟩)])] 80 (0, 0))) ∧ Hid (RwA wr B 29 fl.length (fl.map rA)) ∧ Hid (Below w.heap.size w wr ∧ w.heap.size ≤ wr.heap.size))
      case atStart => exact ⟨1, by omega, by omega, rfl, by simpa using H7, by simpa using H8, HS, H4, H5, H6, H9, HL, HB⟩
      case round =>
        clear HS H4 H5 H6 H7 H8 H9 HL HB
        obtain ⟨r, hr, hr1, rfl, H7, H8, HS, H4, H5, H6, H9, HL, HB⟩ := hrel
        by_cases hlt : r < 16
        · have hr16 : r < v.d.length := by rw [HD16.out]; exact hlt
          have HTN : Hid ((KL ++ (v.d.drop 1).take (r - 1)) ++ [el v.d r] = KL ++ (v.d.drop 1).take (r + 1 - 1)) := Lib.hid (by rw [Nat.add_sub_cancel, drop_next hr1 hr16, List.append_assoc])
          go_wp2
          replace HS := keepA1 HS
          replace H4 := keepA1 H4
          replace H5 := keepA1 H5
          replace H6 := keepA1 H6
          replace H7 := keepA1 H7
          replace H8 := keepA1 H8
          replace H9 := keepA1 H9
          replace HL := Lib.hid (HL.out.drew 1)
          replace HB := keepB1 HB
          refine wp_region_noPanic ?_
          refine rgStart (S := (fun w' => w'.heap[g9]? = some (.cells #[(.func (.func 47) #[] #[.pointer (some ⟨g4, 0, none⟩), .pointer (some ⟨g8, 0, none⟩), .pointer (some ⟨g7, 0, none⟩)])] 80 (0, 0)) ∧ w'.heap[gS]? = some (.cells (nmA v A c) 29 (0, 0)))) (n := 6) #[false, false, false, false, false, false] (by kernel_rfl) rfl rfl ⟨H9.out, HS.out⟩ (fun hHeld => ?_)
          refine rgTake (i := 0) (N := some 58) (oi := { dst := some 58, op := Op.load 80 (Operand.tmp 9), type := 80, pos := "rename.go:100", after := #[], guard := none }) (v := ?_) #[true, false, false, false, false, false] rfl rfl (by kernel_rfl) (fun _ _ _ h => h) (Or.inl ⟨by rfl, ?_⟩) hHeld ?_
          rotate_left
          · intro w' hSw; (try dsimp only at hSw); (have s9 := (cell_of_row _ _ 0 _ _ _ hSw.1).trans rfl; have sD := nm_done kv.m hSw.2 r _ (ma_at hr16)); go_simp; try with_reducible rfl
          simp only [Act.put, List.setIfInBounds_toArray, List.set_cons_zero, List.set_cons_succ]
          refine rgTake (i := 1) (N := some 59) (oi := { dst := some 59, op := Op.move (Operand.tmp 12), type := 3, pos := "rename.go:100", after := #[], guard := none }) (v := ?_) #[true, true, false, false, false, false] rfl rfl (by kernel_rfl) (fun _ _ _ h => h) (Or.inl ⟨by rfl, ?_⟩) hHeld ?_
          rotate_left
          · intro w' hSw; (try dsimp only at hSw); (have s9 := (cell_of_row _ _ 0 _ _ _ hSw.1).trans rfl; have sD := nm_done kv.m hSw.2 r _ (ma_at hr16)); go_simp; try with_reducible rfl
          simp only [Act.put, List.setIfInBounds_toArray, List.set_cons_zero, List.set_cons_succ]
          refine rgTake (i := 2) (N := some 60) (oi := { dst := some 60, op := Op.fieldAddr 29 (Operand.tmp 3) 1, type := 0, pos := "rename.go:100", after := #[], guard := none }) (v := ?_) #[true, true, true, false, false, false] rfl rfl (by kernel_rfl) (fun _ _ _ h => h) (Or.inl ⟨by rfl, ?_⟩) hHeld ?_
          rotate_left
          · intro w' hSw; (try dsimp only at hSw); (have s9 := (cell_of_row _ _ 0 _ _ _ hSw.1).trans rfl; have sD := nm_done kv.m hSw.2 r _ (ma_at hr16)); go_simp; try with_reducible rfl
          simp only [Act.put, List.setIfInBounds_toArray, List.set_cons_zero, List.set_cons_succ]
          refine rgTake (i := 3) (N := some 61) (oi := { dst := some 61, op := Op.indexAddr 23 (Operand.tmp 60) (Operand.tmp 59), type := 0, pos := "rename.go:100", after := #[{ on := 2, ground := Ground.data }, { on := 1, ground := Ground.data }], guard := none }) (v := ?_) #[true, true, true, true, false, false] rfl rfl (by kernel_rfl) (fun _ _ _ h => h) (Or.inl ⟨by rfl, ?_⟩) hHeld ?_
          rotate_left
          · intro w' hSw; (try dsimp only at hSw); (have s9 := (cell_of_row _ _ 0 _ _ _ hSw.1).trans rfl; have sD := nm_done kv.m hSw.2 r _ (ma_at hr16)); go_simp; try with_reducible rfl
          simp only [Act.put, List.setIfInBounds_toArray, List.set_cons_zero, List.set_cons_succ]
          refine rgTake (i := 4) (N := some 62) (oi := { dst := some 62, op := Op.load 3 (Operand.tmp 61), type := 3, pos := "rename.go:100", after := #[{ on := 3, ground := Ground.data }], guard := none }) (v := ?_) #[true, true, true, true, true, false] rfl rfl (by kernel_rfl) (fun _ _ _ h => h) (Or.inl ⟨by rfl, ?_⟩) hHeld ?_
          rotate_left
          · intro w' hSw; (try dsimp only at hSw); (have s9 := (cell_of_row _ _ 0 _ _ _ hSw.1).trans rfl; have sD := nm_done kv.m hSw.2 r _ (ma_at hr16)); go_simp; try with_reducible rfl
          simp only [Act.put, List.setIfInBounds_toArray, List.set_cons_zero, List.set_cons_succ]
          refine rgCall (i := 5) (N := some 63) (oi := { dst := some 63, op := Op.call { callee := Callee.value (Operand.tmp 58), args := #[Operand.tmp 62], argTypes := #[3] }, type := 0, pos := "rename.go:100", after := #[{ on := 0, ground := Ground.data }, { on := 4, ground := Ground.data }], guard := none }) #[true, true, true, true, true, true] rfl rfl (by kernel_rfl) (fun K hK => ?_)
          (go_simp; go_at_call 47; refine (one_cl g4 g8 g7 n (el v.d r) (KL ++ (v.d.drop 1).take (r - 1)) _ H4.out H8.out H7.out (by omega) h96 (by rw [List.length_append, List.length_take, List.length_drop]; omega)).mono ?_; rintro e w16 ⟨rfl, hg, ht, ho⟩; replace HS := keepA2 HS ho (by omega) (by omega); replace H4 := keepA2 H4 ho (by omega) (by omega); replace H5 := keepA2 H5 ho (by omega) (by omega); replace H6 := keepA2 H6 ho (by omega) (by omega); replace H9 := keepA2 H9 ho (by omega) (by omega); replace HL := Lib.hid (HL.out.two ho (fun a e1 e2 => by have := HLS.out a e1 e2; omega)); replace HB := keepB2 HB ho (by omega) (by omega); clear H7 H8; have H8 := Lib.hid hg; have H7 := Lib.hid ht; clear hg ht; clear ho)
          refine hK.out _ _ ⟨H9.out, HS.out⟩ (fun hHeld => ?_)
          (try simp only [Act.put, List.setIfInBounds_toArray, List.set_cons_zero, List.set_cons_succ])
          clear hK K
          refine rgDone (by kernel_rfl) ?_ _
          refine NoPanic.normal ?_
          go_wp2
          go_roundg (16 - (r + 1))
          case rel => exact ⟨r + 1, by omega, by omega, by go_num, by rw [← HTN.out]; exact H7, by rw [← HTN.out]; exact H8, HS, H4, H5, H6, H9, HL, HB⟩
          case measure => omega
        · obtain rfl : r = 16 := by omega
          have hdt : (v.d.drop 1).take (16 - 1) = v.d.drop 1 := List.take_of_length_le (by rw [List.length_drop, HD16.out]; exact Nat.le_refl _)
          replace H7 : Hid (wr.heap[g7]? = some (.cells (ma .i64 (tmL n (KL ++ v.d.drop 1))) 79 (0, 0))) := by rw [hdt] at H7; exact H7
          replace H8 : Hid (wr.heap[g8]? = some (.cells #[.bool (stB n (KL ++ v.d.drop 1))] 4 (0, 0))) := by rw [hdt] at H8; exact H8
          clear hdt
          (try clear c5); have c5 := (cellA H5 0).trans rfl
          go_wp2_with (first | (refine rowLoad rfl 29 _ rfl gS rfl HS.out Try.underlying29 rfl (nm_szV kv _ _) ?_) | (go_at_call 49; refine (steps_any v A B c d fl _ kv HL.out (by omega)).mono ?_; rintro e w17 ⟨rfl, hb⟩; rw [HSP.out]; replace H4 := keepA H4 hb; replace H5 := keepA H5 hb; replace H6 := keepA H6 hb; replace H7 := keepA H7 hb; replace H8 := keepA H8 hb; replace H9 := keepA H9 hb; replace HL := Lib.hid (HL.out.below hb); replace HB := keepB HB hb; (try clear c5); have c5 := (cellA H5 0).trans rfl; clear hb) | (refine cellStore rfl 4 _ _ rfl g6 0 rfl (.bool sp) rfl rfl rfl H6.out (by simp) infoBo ?_; intro w18 hz ho; replace H4 := keepAo H4 (by omega) ho; replace H5 := keepAo H5 (by omega) ho; replace H7 := keepAo H7 (by omega) ho; replace H8 := keepAo H8 (by omega) ho; replace H9 := keepAo H9 (by omega) ho; replace HL := Lib.hid (HL.out.only2 ho (fun a e1 e2 => by have := HLS.out a e1 e2; omega)); replace HB := keepBo HB (by omega) ho; clear H6; have H6 : Hid (w18.heap[g6]? = some (.cells #[.bool sp] 4 (0, 0))) := Lib.hid hz; clear hz ho))
          have h17' := H17.out
          obtain ⟨M, rfl⟩ : ∃ M : Nat, n = (M : Int) := ⟨n.toNat, by omega⟩
          rw [Int.toNat_natCast]
          refine leaves_cons (f := 48) (args := #[.pointer (some ⟨g5, 0, none⟩), .pointer (some ⟨g9, 0, none⟩), .pointer (some ⟨g4, 0, none⟩), .pointer (some ⟨g6, 0, none⟩), .pointer (some ⟨g7, 0, none⟩), .pointer (some ⟨g8, 0, none⟩)]) (by simp) (by simp [go_sem]) ?_
          refine (defer_any g5 g9 g4 g6 g7 g8 w.heap.size M (KL ++ v.d.drop 1) fl B d sp .returning _ H5.out H9.out H4.out H6.out H8.out H7.out HL.out (fun a e1 e2 => by have := HLS.out a e1 e2; omega) (by omega) (by omega) (by omega) (by omega) (by omega) (by omega) (by omega) (by omega) (by omega) (by omega) (by omega) (by omega) (by omega) (by omega) (by omega) HB.out.2 (by omega) h96 (by rw [List.length_append, List.length_drop, HD16.out]; omega) (by omega)).mono ?_
          rintro e u' w'' ⟨rfl, rfl, h6, hb⟩
          exact ⟨_, resRight _ _ g6 _ rfl h6, rfl, HB.out.1.trans hb⟩
theorem rgt_any (v : NmV) (A B : Option Addr) (c d : Nat) (n : Int) (fl : List RenV) (w : World) (hx : RdA .i64 w A v.n v.xs) (kv : v.Ok) (hl : RwA w B 29 fl.length (fl.map rA)) (hfl : fl.length ≤ 100) : Calls Try.prog 24 #[.agg (nmA v A c), .int .i64 n, .slice B fl.length d] w fun e w' => e = .returned (.bool (rgP v n fl)) ∧ Below w.heap.size w w' := by
  by_cases h1 : n < 17
  · exact right_off v A B c d n fl w hx kv hl (.inl h1)
  · by_cases h2 : 96 < n
    · exact right_off v A B c d n fl w hx kv hl (.inr (.inl h2))
    · cases h3 : (Rat.rightB v.m n && (Rat.rightB v.d n && rightB v.xs v.n v.h v.N n)) with
      | false => exact right_off v A B c d n fl w hx kv hl (.inr (.inr h3))
      | true =>
        rw [Bool.and_eq_true, Bool.and_eq_true] at h3
        exact right_on v A B c d n fl w hx kv hl hfl (by omega) h2 h3.1 h3.2.1 h3.2.2
end Go.Proofs.Ytpgighhnhidpcaa.My
