/- Renaming one, program and reference. -/
import Derived.Test.YtpgighhnhidpcaaRenLets
set_option linter.unusedSimpArgs false
set_option linter.unusedVariables false
namespace Go.Proofs.Ytpgighhnhidpcaa.My
open Go.RowKit
theorem uop_src {w : World} {g : Nat} {u : UopV} {t : TypeId} {fr : Nat × Nat} (hg : w.heap[g]? = some (.cells (uA u) t fr)) : w.rangeAt g 17 (#[.int .i64 u.s0, .int .i64 u.s1, .int .i64 u.s2] : Array Value).toList := fun j v hv => by
  rw [cell_of_row w g (17 + j) _ _ _ hg]
  match j, hv with
  | 0, hv => exact hv
  | 1, hv => exact hv
  | 2, hv => exact hv
  | j + 3, hv => simp at hv
theorem infoSrc : (Try.prog.info? 48).map (·.size) = some 3 := by kernel_rfl
theorem infoSeq : (Try.prog.info? 27).map (·.size) = some 1 := by kernel_rfl
theorem zeroFr (w : World) : (zeroValue 26).run Try.prog w = .ok (.agg #[.slice none 0 0, .int .i64 0, .int .i64 0]) w := by kernel_rfl
theorem rA_size (r : RenV) : (rA r).size = 29 := rfl
/-- The renamed one as far as its first k inputs. -/
def rK (m : List Int) (u : UopV) (s : Int) (k : Nat) : RenV := ⟨u, s, if 0 < k then Rat.getM m u.s0 else 0, if 1 < k then Rat.getM m u.s1 else 0, if 2 < k then Rat.getM m u.s2 else 0, -1, -1⟩
/-- The renamed one. -/
def rU (m : List Int) (u : UopV) (s out old : Int) : RenV := ⟨u, s, Rat.getM m u.s0, Rat.getM m u.s1, Rat.getM m u.s2, out, old⟩
def sqS (s : Int) : Int := IntKind.u64.wrap (s + 1)
/-- What one act leaves: names, one renamed, whether it is. -/
def OneP (w w' : World) (A : Option Addr) (m d : List Int) (n : Nat) (xs : List Int) (h N s : Int) (r : RenV) (b : Bool) (e : Ending) : Prop :=
  ∃ A' c, e = .returned (.tuple #[.agg (nm m d (.slice A' n c) h N s), .agg (rA r), .bool b]) ∧ RdA .i64 w' A' n xs ∧ (A' = A ∨ Fresh w.heap.size A') ∧ Below w.heap.size w w'
theorem res2c {P : Program} {fn : Func} {p q v : Tmp} {ty ty2 : TypeId} (h : fn.results = #[.cell p ty, .cell q ty2, .tmp v]) (tmps : Array Value) (w : World) (g : Nat) (t : TypeId) (cs : Array Value) (fr : Nat × Nat) (d : TypeDesc) (g2 : Nat) (t2 : TypeId) (cs2 : Array Value) (fr2 : Nat × Nat) (d2 : TypeDesc)
    (hp : tmps.getD p undef = .pointer (some ⟨g, 0, none⟩)) (hg : w.heap[g]? = some (.cells cs t fr)) (hu : P.underlying ty = some d) (hd : d.isRow = true) (hi : (P.info? ty).map (·.size) = some cs.size)
    (hp2 : tmps.getD q undef = .pointer (some ⟨g2, 0, none⟩)) (hg2 : w.heap[g2]? = some (.cells cs2 t2 fr2)) (hu2 : P.underlying ty2 = some d2) (hd2 : d2.isRow = true) (hi2 : (P.info? ty2).map (·.size) = some cs2.size) :
    (results fn tmps).run P w = .ok (.tuple #[.agg cs, .agg cs2, tmps.getD v undef]) w := by
  have hp' : tmps[p]?.getD undef = .pointer (some ⟨g, 0, none⟩) := by simpa using hp
  have hp2' : tmps[q]?.getD undef = .pointer (some ⟨g2, 0, none⟩) := by simpa using hp2
  have hl := run_loadVar_row (P := P) w g t ty cs fr d hg hu (by cases d <;> first | rfl | exact hd) hi
  have hl2 := run_loadVar_row (P := P) w g2 t2 ty2 cs2 fr2 d2 hg2 hu2 (by cases d2 <;> first | rfl | exact hd2) hi2
  simp [results, h, hp', hp2', asAddr, hl, hl2]
theorem rgCell {P : Program} {ops : Array Oper} {o : Oper} {a : Act} {w : World} {Q : Exit → Act → World → Prop} {K : Act → World → Prop} {E : Prop} (hw : Region.wanted o (yielded ops a.tmps) = true) (ty : TypeId) (x y : Operand) (ho : o.op = .store ty x y) (g j : Nat) (hx : a.eval x = .pointer (some ⟨g, j, none⟩))
    (v : Value) (hy : a.eval y = v) (hv : v.cells = #[v]) (hv1 : v.oneCell' = true) {t : TypeId} {cur : Array Value} (hg : w.heap[g]? = some (.cells cur t (0, 0))) (hj : j < cur.size) (hi : (P.info? ty).map (·.size) = some 1)
    (h : ∀ w2 : World, w2.heap[g]? = some (.cells (cur.setIfInBounds j v) t (0, 0)) → Only g w w2 → K (a.put o.dst undef) w2) : if Region.wanted o (yielded ops a.tmps) = true then Oper.wp P o a w K Q else E := by
  rw [if_pos hw]
  unfold Oper.wp execOp
  simp only [ho, hx, hy, Instr.storeAt, Instr.sureAddr, Sem.run_bind, Sem.run_pure, Result.andThen_ok, run_storeVar_one w g j ty v hv hv1 hg hj hi]
  exact h _ (setRow_heap _ _ _ _ _ _ hg) (only_setRow _ _ _)
theorem yieldsMid {P : Program} {ops : Array Oper} {S : World → Prop} {oi : Oper} {a : Act} (hw : Region.wanted oi (yielded ops a.tmps) = true) (ty : TypeId) (x : Operand) (ho : oi.op = .load ty x) (b off : Nat) (hx : a.eval x = .pointer (some ⟨b, off, none⟩)) (cs : Array Value) (hS : ∀ w, S w → w.rangeAt b off cs.toList)
    {d : TypeDesc} (hu : P.underlying ty = some d) (hd : d.isRow = true) (hi : (P.info? ty).map (·.size) = some cs.size) : YieldsIf P ops S oi (.agg cs) a := by
  have := yieldsIf_load_mid (ops := ops) hw ty x ho b off hx cs.toList d hS hu hd (by simpa using hi)
  simpa using this
/-- A struct built out of its fields. -/
theorem wlBuild {P : Program} {ops : Array Oper} {Q : Exit → Act → World → Prop} {rest : List Oper} {o : Oper} {a : Act} {w : World} (hw : Region.wanted o (yielded ops a.tmps) = true) (ty : TypeId) (parts : Array (Nat × Operand)) (ho : o.op = .build ty parts) (v : Value) (hrun : (execOp a.eval o).run P w = .ok (.value v) w) (h : wpList P ops Q rest (a.put o.dst v) w) : wpList P ops Q (o :: rest) a w :=
  opVal hw v hrun h
theorem wlIndex {P : Program} {ops : Array Oper} {Q : Exit → Act → World → Prop} {rest : List Oper} {o : Oper} {a : Act} {w : World} (hw : Region.wanted o (yielded ops a.tmps) = true) (ty : TypeId) (x i : Operand) (ho : o.op = .index ty x i) (v : Value) (hrun : (execOp a.eval o).run P w = .ok (.value v) w) (h : wpList P ops Q rest (a.put o.dst v) w) : wpList P ops Q (o :: rest) a w :=
  opVal hw v hrun h
/-- The program's taking, told as the reference's. -/
theorem take_lies (A : Option Addr) (n c : Nat) (h N : Int) (xs : List Int) (w : World) (hr : RdA .i64 w A n xs) (hnm : n ≤ 9223372036854775807) : Calls Try.prog 34 #[.agg #[.slice A n c, .int .i64 h, .int .i64 N]] w fun e w' => TakeLies w w' A n xs (tkH n h N) (tkN n h N) (tkP xs n h N) (takeB n h N) e :=
  (take_keep A n c h N xs w hr hnm).mono fun e w' ⟨he, hb⟩ => ⟨A, c, he, hr.below hb, .inl rfl, hb⟩
set_option maxRecDepth 100000 in
set_option maxHeartbeats 2000000 in
theorem one_cases (A : Option Addr) (n c : Nat) (m d : List Int) (h N s : Int) (xs : List Int) (u : UopV) (w : World) (hx : RdA .i64 w A n xs) (hnm : n ≤ 9223372036854775807) (hm : m.length = 16) (hd : d.length = 16) : Calls Try.prog 16 #[.agg (nm m d (.slice A n c) h N s), .agg (uA u)] w fun e w' =>
    (Rat.regB u.dst = false → OneP w w' A m d n xs h N (sqS s) (rU m u s (-1) (-1)) true e) ∧
    (Rat.regB u.dst = true → takeB n h N = false → OneP w w' A m d n xs h N s rZ false e) ∧
    (Rat.regB u.dst = true → takeB n h N = true → OneP w w' A (Rat.setM m u.dst (tkP xs n h N)) d n xs (tkH n h N) (tkN n h N) (sqS s) (rU m u s (tkP xs n h N) (Rat.getM m u.dst)) true e) := by
  have HB := startB w
  have HX := Lib.hid hx
  have HL := Lib.hid hx.lt
  clear hx
  obtain ⟨H1, hTH⟩ : ∃ H1, tkH n h N = H1 := ⟨_, rfl⟩
  obtain ⟨N1, hTN⟩ : ∃ N1, tkN n h N = N1 := ⟨_, rfl⟩
  obtain ⟨p, hTP⟩ : ∃ p, tkP xs n h N = p := ⟨_, rfl⟩
  obtain ⟨m', hm1⟩ : ∃ m', Rat.setM m u.dst p = m' := ⟨_, rfl⟩
  have hm' : m'.length = 16 := by rw [← hm1, setM_len, hm]
  rw [hTH, hTN, hTP, hm1]
  have HM1 := Lib.hid hm1
  have HTH := Lib.hid hTH
  have HTN := Lib.hid hTN
  have HTP := Lib.hid hTP
  clear hm1 hTH hTN hTP
  go_enter Try.func16, Try.ntmps16
  go_wp2_with (first | (refine wlBox rfl 29 _ rfl (nm m d (.slice A n c) h N s) rfl ?_; intro gS w1 hgS hgS' hs hb; have HS := Lib.hid hs; replace HX := Lib.hid (HX.out.below hb); replace HB := keepB HB hb; clear hs hb) | (refine wlBox rfl 50 _ rfl (uA u) rfl ?_; intro gU w2 hgU hgU' hu hb; have HU := Lib.hid hu; replace HS := keepA HS hb; replace HX := Lib.hid (HX.out.below hb); replace HB := keepB HB hb; (try clear fSeq fDst); have fSeq := (cellA HS 35).trans (nm_35 hm hd); have fDst := (cellA HU 20).trans (uA_20 u); clear hu hb) | (refine wlAlloc rfl 29 rfl _ zeroNames ?_; intro gZ w3 hgZ hgZ' hz hb; have HZ := Lib.hid hz; replace HS := keepA HS hb; replace HU := keepA HU hb; replace HX := Lib.hid (HX.out.below hb); replace HB := keepB HB hb; (try clear fSeq fDst); have fSeq := (cellA HS 35).trans (nm_35 hm hd); have fDst := (cellA HU 20).trans (uA_20 u); clear hz hb) | (have hq := HQ; refine wlAlloc rfl 52 rfl _ zeroRen ?_; intro gR w5 hgR hgR' hz hb; have HR := Lib.hid hz; clear hq; replace HS := keepA HS hb; replace HU := keepA HU hb; replace HZ := keepA HZ hb; replace HQ := keepA HQ hb; replace HX := Lib.hid (HX.out.below hb); replace HB := keepB HB hb; (try clear fSeq fDst); have fSeq := (cellA HS 35).trans (nm_35 hm hd); have fDst := (cellA HU 20).trans (uA_20 u); clear hz hb) | (refine wlAlloc rfl 52 rfl _ zeroRen ?_; intro gQ w4 hgQ hgQ' hz hb; have HQ := Lib.hid hz; replace HS := keepA HS hb; replace HU := keepA HU hb; replace HZ := keepA HZ hb; replace HX := Lib.hid (HX.out.below hb); replace HB := keepB HB hb; (try clear fSeq fDst); have fSeq := (cellA HS 35).trans (nm_35 hm hd); have fDst := (cellA HU 20).trans (uA_20 u); clear hz hb) | (refine rowLoad rfl 50 _ rfl _ rfl HU.out Try.underlying50 rfl infoUop ?_) | (refine rowStore rfl 52 _ _ rfl gR rfl (rA (rK m u s 0)) rfl HR.out infoRen rfl (rA_one _) ?_; intro w6 hr ho; replace HS := keepAo HS (by omega) ho; replace HU := keepAo HU (by omega) ho; replace HZ := keepAo HZ (by omega) ho; replace HQ := keepAo HQ (by omega) ho; replace HX := Lib.hid (HX.out.only2 ho (fun a e1 e2 => by have := HL.out a e1 e2; omega)); replace HB := keepBo HB (by omega) ho; (try clear fSeq fDst); have fSeq := (cellA HS 35).trans (nm_35 hm hd); have fDst := (cellA HU 20).trans (uA_20 u); clear HR; have HR := Lib.hid hr; clear hr ho) | (refine partLoad rfl 48 _ rfl gU 17 rfl (uop_src HU.out) Try.underlying48 rfl infoSrc ?_) | (refine wlBuild rfl 52 #[(0, _), (1, _), (3, _), (4, _)] rfl (.agg (rA (rK m u s 0))) (by kernel_rfl) ?_))
  go_loopw [19] (fun i wr => ∃ k : Nat, k ≤ 3 ∧ i = .int .i64 k ∧ Hid (wr.heap[gS]? = some (.cells (nm m d (.slice A n c) h N s) 29 (0, 0))) ∧ Hid (wr.heap[gU]? = some (.cells (uA u) 50 (0, 0))) ∧ Hid (wr.heap[gZ]? = some (.cells (nm zeros16 zeros16 (.slice none 0 0) 0 0 0) 29 (0, 0))) ∧ Hid (wr.heap[gQ]? = some (.cells (rA rZ) 52 (0, 0))) ∧ Hid (wr.heap[gR]? = some (.cells (rA (rK m u s k)) 52 (0, 0))) ∧ Hid (RdA .i64 wr A n xs) ∧ Hid (Below w.heap.size w wr ∧ w.heap.size ≤ wr.heap.size)) (fun i _ => 3 - (intOf i).toNat)
  case atStart => exact ⟨0, by omega, rfl, HS, HU, HZ, HQ, HR, HX, HB⟩
  case round =>
    clear fSeq fDst HS HU HZ HQ HR HX HB
    obtain ⟨k, hk, rfl, HS, HU, HZ, HQ, HR, HX, HB⟩ := hrel
    obtain rfl | rfl | rfl | rfl : k = 0 ∨ k = 1 ∨ k = 2 ∨ k = 3 := by omega
    · (try clear fSeq fDst); have fSeq := (cellA HS 35).trans (nm_35 hm hd); have fDst := (cellA HU 20).trans (uA_20 u)
      go_wp2_with (first | (refine wlIndex rfl 48 _ _ rfl (.int .i64 u.s0) (by kernel_rfl) ?_) | (refine partLoad rfl 23 _ rfl gS 0 rfl (nm_map HS.out) Try.underlying23 rfl (szM hm) ?_) | (go_at_call 32; refine (Rat.get_any m u.s0 _ hm).mono ?_; rintro e w7 ⟨rfl, hb⟩; replace HS := keepA HS hb; replace HU := keepA HU hb; replace HZ := keepA HZ hb; replace HQ := keepA HQ hb; replace HR := keepA HR hb; replace HX := Lib.hid (HX.out.below hb); replace HB := keepB HB hb; (try clear fSeq fDst); have fSeq := (cellA HS 35).trans (nm_35 hm hd); have fDst := (cellA HU 20).trans (uA_20 u); clear hb) | (refine cellStore rfl 3 _ _ rfl gR 24 rfl (.int .i64 (Rat.getM m u.s0)) rfl rfl rfl HR.out (by rw [rA_size]; omega) infoInt1 ?_; intro w8 hr ho; replace HS := keepAo HS (by omega) ho; replace HU := keepAo HU (by omega) ho; replace HZ := keepAo HZ (by omega) ho; replace HQ := keepAo HQ (by omega) ho; replace HX := Lib.hid (HX.out.only2 ho (fun a e1 e2 => by have := HL.out a e1 e2; omega)); replace HB := keepBo HB (by omega) ho; (try clear fSeq fDst); have fSeq := (cellA HS 35).trans (nm_35 hm hd); have fDst := (cellA HU 20).trans (uA_20 u); clear HR; have HR : Hid (w8.heap[gR]? = some (.cells (rA (rK m u s 1)) 52 (0, 0))) := hr; clear hr ho))
      go_roundw
      case rel => exact ⟨1, by omega, by go_num, HS, HU, HZ, HQ, HR, HX, HB⟩
      case measure => simp [intOf]
    · (try clear fSeq fDst); have fSeq := (cellA HS 35).trans (nm_35 hm hd); have fDst := (cellA HU 20).trans (uA_20 u)
      go_wp2_with (first | (refine wlIndex rfl 48 _ _ rfl (.int .i64 u.s1) (by kernel_rfl) ?_) | (refine partLoad rfl 23 _ rfl gS 0 rfl (nm_map HS.out) Try.underlying23 rfl (szM hm) ?_) | (go_at_call 32; refine (Rat.get_any m u.s1 _ hm).mono ?_; rintro e w7 ⟨rfl, hb⟩; replace HS := keepA HS hb; replace HU := keepA HU hb; replace HZ := keepA HZ hb; replace HQ := keepA HQ hb; replace HR := keepA HR hb; replace HX := Lib.hid (HX.out.below hb); replace HB := keepB HB hb; (try clear fSeq fDst); have fSeq := (cellA HS 35).trans (nm_35 hm hd); have fDst := (cellA HU 20).trans (uA_20 u); clear hb) | (refine cellStore rfl 3 _ _ rfl gR 25 rfl (.int .i64 (Rat.getM m u.s1)) rfl rfl rfl HR.out (by rw [rA_size]; omega) infoInt1 ?_; intro w8 hr ho; replace HS := keepAo HS (by omega) ho; replace HU := keepAo HU (by omega) ho; replace HZ := keepAo HZ (by omega) ho; replace HQ := keepAo HQ (by omega) ho; replace HX := Lib.hid (HX.out.only2 ho (fun a e1 e2 => by have := HL.out a e1 e2; omega)); replace HB := keepBo HB (by omega) ho; (try clear fSeq fDst); have fSeq := (cellA HS 35).trans (nm_35 hm hd); have fDst := (cellA HU 20).trans (uA_20 u); clear HR; have HR : Hid (w8.heap[gR]? = some (.cells (rA (rK m u s 2)) 52 (0, 0))) := hr; clear hr ho))
      go_roundw
      case rel => exact ⟨2, by omega, by go_num, HS, HU, HZ, HQ, HR, HX, HB⟩
      case measure => simp [intOf]
    · (try clear fSeq fDst); have fSeq := (cellA HS 35).trans (nm_35 hm hd); have fDst := (cellA HU 20).trans (uA_20 u)
      go_wp2_with (first | (refine wlIndex rfl 48 _ _ rfl (.int .i64 u.s2) (by kernel_rfl) ?_) | (refine partLoad rfl 23 _ rfl gS 0 rfl (nm_map HS.out) Try.underlying23 rfl (szM hm) ?_) | (go_at_call 32; refine (Rat.get_any m u.s2 _ hm).mono ?_; rintro e w7 ⟨rfl, hb⟩; replace HS := keepA HS hb; replace HU := keepA HU hb; replace HZ := keepA HZ hb; replace HQ := keepA HQ hb; replace HR := keepA HR hb; replace HX := Lib.hid (HX.out.below hb); replace HB := keepB HB hb; (try clear fSeq fDst); have fSeq := (cellA HS 35).trans (nm_35 hm hd); have fDst := (cellA HU 20).trans (uA_20 u); clear hb) | (refine cellStore rfl 3 _ _ rfl gR 26 rfl (.int .i64 (Rat.getM m u.s2)) rfl rfl rfl HR.out (by rw [rA_size]; omega) infoInt1 ?_; intro w8 hr ho; replace HS := keepAo HS (by omega) ho; replace HU := keepAo HU (by omega) ho; replace HZ := keepAo HZ (by omega) ho; replace HQ := keepAo HQ (by omega) ho; replace HX := Lib.hid (HX.out.only2 ho (fun a e1 e2 => by have := HL.out a e1 e2; omega)); replace HB := keepBo HB (by omega) ho; (try clear fSeq fDst); have fSeq := (cellA HS 35).trans (nm_35 hm hd); have fDst := (cellA HU 20).trans (uA_20 u); clear HR; have HR : Hid (w8.heap[gR]? = some (.cells (rA (rK m u s 3)) 52 (0, 0))) := hr; clear hr ho))
      go_roundw
      case rel => exact ⟨3, by omega, by go_num, HS, HU, HZ, HQ, HR, HX, HB⟩
      case measure => simp [intOf]
    · (try clear fSeq fDst); have fSeq := (cellA HS 35).trans (nm_35 hm hd); have fDst := (cellA HU 20).trans (uA_20 u)
      cases hb : Rat.regB u.dst with
      | false =>
        replace HR : Hid (wr.heap[gR]? = some (.cells (rA (rU m u s (-1) (-1))) 52 (0, 0))) := HR
        go_wp2_with (first | (refine rowLoad rfl 50 _ rfl _ rfl HU.out Try.underlying50 rfl infoUop ?_) | (go_at_call 33; refine (writes_any u _).mono ?_; rintro e w9 ⟨rfl, hb⟩; replace HS := keepA HS hb; replace HU := keepA HU hb; replace HZ := keepA HZ hb; replace HQ := keepA HQ hb; replace HR := keepA HR hb; replace HX := Lib.hid (HX.out.below hb); replace HB := keepB HB hb; (try clear fSeq fDst); have fSeq := (cellA HS 35).trans (nm_35 hm hd); have fDst := (cellA HU 20).trans (uA_20 u); clear hb) | (refine cellStore rfl 27 _ _ rfl gS 35 rfl (.int .u64 (sqS s)) rfl rfl rfl HS.out (by rw [nm_size hm hd]; omega) infoSeq ?_; intro w10 hs ho; replace HU := keepAo HU (by omega) ho; replace HZ := keepAo HZ (by omega) ho; replace HQ := keepAo HQ (by omega) ho; replace HR := keepAo HR (by omega) ho; replace HX := Lib.hid (HX.out.only2 ho (fun a e1 e2 => by have := HL.out a e1 e2; omega)); replace HB := keepBo HB (by omega) ho; rw [nm_set35 hm hd] at hs; clear HS; have HS := Lib.hid hs; clear hs ho fSeq))
        replace HS := keepA1 HS
        replace HZ := keepA1 HZ
        replace HQ := keepA1 HQ
        replace HR := keepA1 HR
        replace HX := Lib.hid (HX.out.drew 1)
        replace HB := keepB1 HB
        refine rgStart (S := (fun w' => w'.heap[gS]? = some (.cells (nm m d (.slice A n c) h N (sqS s)) 29 (0, 0)) ∧ w'.heap[gR]? = some (.cells (rA (rU m u s (-1) (-1))) 52 (0, 0)))) (n := 5) #[false, false, false, false, false] (by kernel_rfl) rfl rfl ⟨HS.out, HR.out⟩ (fun hHeld => ?_)
        refine rgTake (i := 0) (N := some 65) (oi := { dst := some 65, op := Op.load 29 (Operand.tmp 2), type := 29, pos := "rename.go:34", after := #[], guard := none }) (v := _) #[true, false, false, false, false] rfl rfl (by kernel_rfl) (fun _ _ _ h => h) (by first | exact yieldsRow (by rfl) _ _ rfl _ rfl (fun _ h => h.1) Try.underlying29 rfl (szN hm hd) | exact yieldsRow (by rfl) _ _ rfl _ rfl (fun _ h => h.2) Try.underlying52 rfl infoRen) hHeld ?_
        simp only [Act.put, List.setIfInBounds_toArray, List.set_cons_zero, List.set_cons_succ]
        refine rgTake (i := 1) (N := some 66) (oi := { dst := some 66, op := Op.load 52 (Operand.tmp 7), type := 52, pos := "rename.go:34", after := #[{ on := 2, ground := Ground.gcOnly Departure.lateStores }], guard := none }) (v := _) #[true, true, false, false, false] rfl rfl (by kernel_rfl) (fun _ _ _ h => h) (by first | exact yieldsRow (by rfl) _ _ rfl _ rfl (fun _ h => h.1) Try.underlying29 rfl (szN hm hd) | exact yieldsRow (by rfl) _ _ rfl _ rfl (fun _ h => h.2) Try.underlying52 rfl infoRen) hHeld ?_
        simp only [Act.put, List.setIfInBounds_toArray, List.set_cons_zero, List.set_cons_succ]
        refine rgCall (i := 2) (N := none) (oi := { dst := none, op := Op.store 29 (Operand.tmp 4) (Operand.tmp 65), type := 0, pos := "rename.go:34", after := #[{ on := 0, ground := Ground.data }, { on := 0, ground := Ground.phase }, { on := 1, ground := Ground.textOnly Departure.lateStores }], guard := none }) #[true, true, true, false, false] rfl rfl (by kernel_rfl) (fun K hK => ?_)
        (refine rgStore (by rfl) 29 _ _ rfl gZ rfl (nm m d (.slice A n c) h N (sqS s)) rfl HZ.out (szN hm hd) (szE rfl rfl hm hd) (nm_one rfl) ?_; intro w22 hz ho; replace HS := keepAo HS (by omega) ho; replace HR := keepAo HR (by omega) ho; replace HQ := keepAo HQ (by omega) ho; replace HX := Lib.hid (HX.out.only2 ho (fun a e1 e2 => by have := HL.out a e1 e2; omega)); replace HB := keepBo HB (by omega) ho; clear HZ; have HZ := Lib.hid hz; clear hz ho)
        refine hK.out _ _ ⟨HS.out, HR.out⟩ (fun hHeld => ?_)
        clear hK K
        refine rgCall (i := 3) (N := none) (oi := { dst := none, op := Op.store 52 (Operand.tmp 5) (Operand.tmp 66), type := 0, pos := "rename.go:34", after := #[{ on := 1, ground := Ground.data }, { on := 2, ground := Ground.chain }, { on := 0, ground := Ground.phase }, { on := 1, ground := Ground.phase }, { on := 2, ground := Ground.phase }], guard := none }) #[true, true, true, true, false] rfl rfl (by kernel_rfl) (fun K hK => ?_)
        (refine rgStore (by rfl) 52 _ _ rfl gQ rfl (rA (rU m u s (-1) (-1))) rfl HQ.out infoRen rfl (rA_one _) ?_; intro w23 hz ho; replace HS := keepAo HS (by omega) ho; replace HR := keepAo HR (by omega) ho; replace HZ := keepAo HZ (by omega) ho; replace HX := Lib.hid (HX.out.only2 ho (fun a e1 e2 => by have := HL.out a e1 e2; omega)); replace HB := keepBo HB (by omega) ho; clear HQ; have HQ := Lib.hid hz; clear hz ho)
        refine hK.out _ _ ⟨HS.out, HR.out⟩ (fun hHeld => ?_)
        clear hK K
        refine rgTake (i := 4) (N := some 6) (oi := { dst := some 6, op := Op.assign (Operand.const (Value.bool true)), type := 4, pos := "rename.go:34", after := #[{ on := 3, ground := Ground.chain }, { on := 0, ground := Ground.phase }, { on := 1, ground := Ground.phase }, { on := 2, ground := Ground.phase }, { on := 3, ground := Ground.phase }], guard := none }) (v := ?_) #[true, true, true, true, true] rfl rfl (by kernel_rfl) (fun _ _ _ h => h) (Or.inl ⟨by rfl, ?_⟩) hHeld ?_
        rotate_left
        · intro w' hSw; (try dsimp only at hSw); skip; go_simp; try with_reducible rfl
        simp only [Act.put, List.setIfInBounds_toArray, List.set_cons_zero, List.set_cons_succ]
        refine rgDone (by kernel_rfl) ?_ _
        go_wp2
        exact bodyPost_ret (res2c rfl _ _ gZ 29 (nm m d (.slice A n c) h N (sqS s)) (0, 0) _ gQ 52 (rA (rU m u s (-1) (-1))) (0, 0) _ rfl HZ.out Try.underlying29 rfl (szN hm hd) rfl HQ.out Try.underlying52 rfl infoRen) rfl ⟨fun _ => ⟨A, c, rfl, HX.out, .inl rfl, HB.out.1⟩, fun h => absurd (hb.symm.trans h) (by decide), fun h => absurd (hb.symm.trans h) (by decide)⟩
      | true =>
        cases ht : takeB n h N with
        | false =>
          go_wp2_with (first | (refine rowLoad rfl 50 _ rfl _ rfl HU.out Try.underlying50 rfl infoUop ?_) | (go_at_call 33; refine (writes_any u _).mono ?_; rintro e w9 ⟨rfl, hb⟩; replace HS := keepA HS hb; replace HU := keepA HU hb; replace HZ := keepA HZ hb; replace HQ := keepA HQ hb; replace HR := keepA HR hb; replace HX := Lib.hid (HX.out.below hb); replace HB := keepB HB hb; (try clear fSeq fDst); have fSeq := (cellA HS 35).trans (nm_35 hm hd); have fDst := (cellA HU 20).trans (uA_20 u); clear hb) | (refine partLoad rfl 26 _ rfl gS 32 rfl (nm_free hm hd HS.out) Try.underlying26 rfl infoFr ?_) | (go_at_call 34; refine (take_lies A n c h N xs _ HX.out hnm).mono ?_; rintro e w11 ⟨A1, c1, rfl, hx1, hA, hb⟩; rw [HTH.out, HTN.out, HTP.out, ht]; have hlt : gR + 1 ≤ _ := (Array.getElem?_eq_some_iff.1 HR.out).1; have HA1 := Lib.hid (hA.imp_right fun hf => Fresh.mono hf hlt); have HF1 := Lib.hid (far HL.out HA1.out); clear hlt hA; replace HS := keepA HS hb; replace HU := keepA HU hb; replace HZ := keepA HZ hb; replace HQ := keepA HQ hb; replace HR := keepA HR hb; replace HX := Lib.hid (HX.out.below hb); replace HB := keepB HB hb; have HX1 := Lib.hid hx1; (try clear fSeq fDst); have fSeq := (cellA HS 35).trans (nm_35 hm hd); have fDst := (cellA HU 20).trans (uA_20 u); clear hb hx1) | (refine wlAlloc rfl 26 rfl _ zeroFr ?_; intro gF w12 hgF hgF' hz hb; have hRF : gR < gF := Nat.lt_of_lt_of_le (Array.getElem?_eq_some_iff.1 HR.out).1 hgF; have HFF := Lib.hid hz; have HG1 : Hid (∀ a, A1 = some a → 0 < n → a.block ≠ gF) := Lib.hid (fun a e1 e2 => Nat.ne_of_lt (Nat.lt_of_lt_of_le (HX1.out.lt a e1 e2) hgF)); replace HS := keepA HS hb; replace HU := keepA HU hb; replace HZ := keepA HZ hb; replace HQ := keepA HQ hb; replace HR := keepA HR hb; replace HX1 := Lib.hid (HX1.out.below hb); replace HB := keepB HB hb; replace HX := Lib.hid (HX.out.below hb); (try clear fSeq fDst); have fSeq := (cellA HS 35).trans (nm_35 hm hd); have fDst := (cellA HU 20).trans (uA_20 u); clear hz hb) | (refine rowStore rfl 26 _ _ rfl gF rfl #[.slice A1 n c1, .int .i64 H1, .int .i64 N1] rfl HFF.out infoFr rfl (by simp [Value.oneCell']) ?_; intro w13 hz ho; replace HS := keepAo HS (by omega) ho; replace HU := keepAo HU (by omega) ho; replace HZ := keepAo HZ (by omega) ho; replace HQ := keepAo HQ (by omega) ho; replace HR := keepAo HR (by omega) ho; replace HX1 := Lib.hid (HX1.out.only2 ho HG1.out); replace HX := Lib.hid (HX.out.only2 ho (fun a e1 e2 => by have := HL.out a e1 e2; omega)); replace HB := keepBo HB (by omega) ho; (try clear fSeq fDst); have fSeq := (cellA HS 35).trans (nm_35 hm hd); have fDst := (cellA HU 20).trans (uA_20 u); clear HFF; have HFF := Lib.hid hz; clear hz ho) | (refine rowLoad rfl 29 _ rfl _ rfl HS.out Try.underlying29 rfl (szN hm hd) ?_) | (refine rowStore rfl 29 _ _ rfl gZ rfl (nm m d (.slice A n c) h N s) rfl HZ.out (szN hm hd) (szE rfl rfl hm hd) (nm_one rfl) ?_; intro w14 hz ho; replace HQ := keepAo HQ (by omega) ho; replace HX := Lib.hid (HX.out.only2 ho (fun a e1 e2 => by have := HL.out a e1 e2; omega)); replace HB := keepBo HB (by omega) ho; clear HZ; have HZ := Lib.hid hz; clear hz ho fSeq fDst) | (refine wlBuild rfl 52 #[] rfl (.agg (rA rZ)) (by kernel_rfl) ?_) | (refine rowStore rfl 52 _ _ rfl gQ rfl (rA rZ) rfl HQ.out infoRen rfl (rA_one _) ?_; intro w15 hq ho; replace HZ := keepAo HZ (by omega) ho; replace HX := Lib.hid (HX.out.only2 ho (fun a e1 e2 => by have := HL.out a e1 e2; omega)); replace HB := keepBo HB (by omega) ho; clear HQ; have HQ := Lib.hid hq; clear hq ho))
          exact bodyPost_ret (res2c rfl _ _ gZ 29 (nm m d (.slice A n c) h N s) (0, 0) _ gQ 52 (rA rZ) (0, 0) _ rfl HZ.out Try.underlying29 rfl (szN hm hd) rfl HQ.out Try.underlying52 rfl infoRen) rfl ⟨fun h => absurd (hb.symm.trans h) (by decide), fun _ _ => ⟨A, c, rfl, HX.out, .inl rfl, HB.out.1⟩, fun _ h => absurd (ht.symm.trans h) (by decide)⟩
        | true =>
          go_wp2_with (first | (refine rowLoad rfl 50 _ rfl _ rfl HU.out Try.underlying50 rfl infoUop ?_) | (go_at_call 33; refine (writes_any u _).mono ?_; rintro e w9 ⟨rfl, hb⟩; replace HS := keepA HS hb; replace HU := keepA HU hb; replace HZ := keepA HZ hb; replace HQ := keepA HQ hb; replace HR := keepA HR hb; replace HX := Lib.hid (HX.out.below hb); replace HB := keepB HB hb; (try clear fSeq fDst); have fSeq := (cellA HS 35).trans (nm_35 hm hd); have fDst := (cellA HU 20).trans (uA_20 u); clear hb) | (refine partLoad rfl 26 _ rfl gS 32 rfl (nm_free hm hd HS.out) Try.underlying26 rfl infoFr ?_) | (go_at_call 34; refine (take_lies A n c h N xs _ HX.out hnm).mono ?_; rintro e w11 ⟨A1, c1, rfl, hx1, hA, hb⟩; rw [HTH.out, HTN.out, HTP.out, ht]; have hlt : gR + 1 ≤ _ := (Array.getElem?_eq_some_iff.1 HR.out).1; have HA1 := Lib.hid (hA.imp_right fun hf => Fresh.mono hf hlt); have HF1 := Lib.hid (far HL.out HA1.out); clear hlt hA; replace HS := keepA HS hb; replace HU := keepA HU hb; replace HZ := keepA HZ hb; replace HQ := keepA HQ hb; replace HR := keepA HR hb; replace HX := Lib.hid (HX.out.below hb); replace HB := keepB HB hb; have HX1 := Lib.hid hx1; (try clear fSeq fDst); have fSeq := (cellA HS 35).trans (nm_35 hm hd); have fDst := (cellA HU 20).trans (uA_20 u); clear hb hx1) | (refine wlAlloc rfl 26 rfl _ zeroFr ?_; intro gF w12 hgF hgF' hz hb; have hRF : gR < gF := Nat.lt_of_lt_of_le (Array.getElem?_eq_some_iff.1 HR.out).1 hgF; have HFF := Lib.hid hz; have HG1 : Hid (∀ a, A1 = some a → 0 < n → a.block ≠ gF) := Lib.hid (fun a e1 e2 => Nat.ne_of_lt (Nat.lt_of_lt_of_le (HX1.out.lt a e1 e2) hgF)); replace HS := keepA HS hb; replace HU := keepA HU hb; replace HZ := keepA HZ hb; replace HQ := keepA HQ hb; replace HR := keepA HR hb; replace HX1 := Lib.hid (HX1.out.below hb); replace HB := keepB HB hb; replace HX := Lib.hid (HX.out.below hb); (try clear fSeq fDst); have fSeq := (cellA HS 35).trans (nm_35 hm hd); have fDst := (cellA HU 20).trans (uA_20 u); clear hz hb) | (refine rowStore rfl 26 _ _ rfl gF rfl #[.slice A1 n c1, .int .i64 H1, .int .i64 N1] rfl HFF.out infoFr rfl (by simp [Value.oneCell']) ?_; intro w13 hz ho; replace HS := keepAo HS (by omega) ho; replace HU := keepAo HU (by omega) ho; replace HZ := keepAo HZ (by omega) ho; replace HQ := keepAo HQ (by omega) ho; replace HR := keepAo HR (by omega) ho; replace HX1 := Lib.hid (HX1.out.only2 ho HG1.out); replace HX := Lib.hid (HX.out.only2 ho (fun a e1 e2 => by have := HL.out a e1 e2; omega)); replace HB := keepBo HB (by omega) ho; (try clear fSeq fDst); have fSeq := (cellA HS 35).trans (nm_35 hm hd); have fDst := (cellA HU 20).trans (uA_20 u); clear HFF; have HFF := Lib.hid hz; clear hz ho) | (refine partLoad rfl 23 _ rfl gS 0 rfl (nm_map HS.out) Try.underlying23 rfl (szM hm) ?_) | (go_at_call 32; refine (Rat.get_any m u.dst _ hm).mono ?_; rintro e w16 ⟨rfl, hb⟩; replace HS := keepA HS hb; replace HU := keepA HU hb; replace HZ := keepA HZ hb; replace HQ := keepA HQ hb; replace HR := keepA HR hb; replace HFF := keepA HFF hb; replace HX1 := Lib.hid (HX1.out.below hb); replace HB := keepB HB hb; (try clear fSeq fDst); have fSeq := (cellA HS 35).trans (nm_35 hm hd); have fDst := (cellA HU 20).trans (uA_20 u); clear hb) | (refine cellStore rfl 3 _ _ rfl gR 27 rfl (.int .i64 p) rfl rfl rfl HR.out (by rw [rA_size]; omega) infoInt1 ?_; intro w17 hr ho; replace HS := keepAo HS (by omega) ho; replace HU := keepAo HU (by omega) ho; replace HZ := keepAo HZ (by omega) ho; replace HQ := keepAo HQ (by omega) ho; replace HFF := keepAo HFF (by omega) ho; replace HX1 := Lib.hid (HX1.out.only2 ho (fun a e1 e2 => by have := HF1.out a e1 e2; omega)); replace HB := keepBo HB (by omega) ho; (try clear fSeq fDst); have fSeq := (cellA HS 35).trans (nm_35 hm hd); have fDst := (cellA HU 20).trans (uA_20 u); clear HR; have HR : Hid (w17.heap[gR]? = some (.cells (rA (rU m u s p (-1))) 52 (0, 0))) := hr; clear hr ho) | (refine cellStore rfl 3 _ _ rfl gR 28 rfl (.int .i64 (Rat.getM m u.dst)) rfl rfl rfl HR.out (by rw [rA_size]; omega) infoInt1 ?_; intro w18 hr ho; replace HS := keepAo HS (by omega) ho; replace HU := keepAo HU (by omega) ho; replace HZ := keepAo HZ (by omega) ho; replace HQ := keepAo HQ (by omega) ho; replace HFF := keepAo HFF (by omega) ho; replace HX1 := Lib.hid (HX1.out.only2 ho (fun a e1 e2 => by have := HF1.out a e1 e2; omega)); replace HB := keepBo HB (by omega) ho; (try clear fSeq fDst); have fSeq := (cellA HS 35).trans (nm_35 hm hd); have fDst := (cellA HU 20).trans (uA_20 u); clear HR; have HR : Hid (w18.heap[gR]? = some (.cells (rA (rU m u s p (Rat.getM m u.dst))) 52 (0, 0))) := hr; clear hr ho) | (refine rowLoad rfl 26 _ rfl gF rfl HFF.out Try.underlying26 rfl infoFr ?_) | (refine storeRing rfl 26 _ _ rfl rfl (.slice A1 n c1) H1 N1 rfl HS.out hm hd rfl infoFr ?_; intro w19 hs ho; replace HU := keepAo HU (by omega) ho; replace HZ := keepAo HZ (by omega) ho; replace HQ := keepAo HQ (by omega) ho; replace HR := keepAo HR (by omega) ho; replace HX1 := Lib.hid (HX1.out.only2 ho (fun a e1 e2 => by have := HF1.out a e1 e2; omega)); replace HB := keepBo HB (by omega) ho; clear HS HFF; have HS := Lib.hid hs; (try clear fSeq fDst); have fSeq := (cellA HS 35).trans (nm_35 hm hd); have fDst := (cellA HU 20).trans (uA_20 u); clear hs ho) | (go_at_call 35; refine (Rat.set_any m u.dst p _ hm).mono ?_; rintro e w20 ⟨rfl, hb⟩; rw [HM1.out]; replace HS := keepA HS hb; replace HU := keepA HU hb; replace HZ := keepA HZ hb; replace HQ := keepA HQ hb; replace HR := keepA HR hb; replace HX1 := Lib.hid (HX1.out.below hb); replace HB := keepB HB hb; (try clear fSeq fDst); have fSeq := (cellA HS 35).trans (nm_35 hm hd); have fDst := (cellA HU 20).trans (uA_20 u); clear hb) | (refine storeMap rfl 23 _ _ rfl rfl m' rfl HS.out hm hm' infoMap ?_; intro w21 hs ho; replace HU := keepAo HU (by omega) ho; replace HZ := keepAo HZ (by omega) ho; replace HQ := keepAo HQ (by omega) ho; replace HR := keepAo HR (by omega) ho; replace HX1 := Lib.hid (HX1.out.only2 ho (fun a e1 e2 => by have := HF1.out a e1 e2; omega)); replace HB := keepBo HB (by omega) ho; clear HS; have HS := Lib.hid hs; (try clear fSeq fDst); have fSeq := (cellA HS 35).trans (nm_35 hm' hd); have fDst := (cellA HU 20).trans (uA_20 u); clear hs ho) | (refine cellStore rfl 27 _ _ rfl gS 35 rfl (.int .u64 (sqS s)) rfl rfl rfl HS.out (by rw [nm_size hm' hd]; omega) infoSeq ?_; intro w10 hs ho; replace HU := keepAo HU (by omega) ho; replace HZ := keepAo HZ (by omega) ho; replace HQ := keepAo HQ (by omega) ho; replace HR := keepAo HR (by omega) ho; replace HX1 := Lib.hid (HX1.out.only2 ho (fun a e1 e2 => by have := HF1.out a e1 e2; omega)); replace HB := keepBo HB (by omega) ho; rw [nm_set35 hm' hd] at hs; clear HS; have HS := Lib.hid hs; clear hs ho fSeq))
          replace HS := keepA1 HS
          replace HZ := keepA1 HZ
          replace HQ := keepA1 HQ
          replace HR := keepA1 HR
          replace HX1 := Lib.hid (HX1.out.drew 1)
          replace HB := keepB1 HB
          refine rgStart (S := (fun w' => w'.heap[gS]? = some (.cells (nm m' d (.slice A1 n c1) H1 N1 (sqS s)) 29 (0, 0)) ∧ w'.heap[gR]? = some (.cells (rA (rU m u s p (Rat.getM m u.dst))) 52 (0, 0)))) (n := 5) #[false, false, false, false, false] (by kernel_rfl) rfl rfl ⟨HS.out, HR.out⟩ (fun hHeld => ?_)
          refine rgTake (i := 0) (N := some 65) (oi := { dst := some 65, op := Op.load 29 (Operand.tmp 2), type := 29, pos := "rename.go:34", after := #[], guard := none }) (v := _) #[true, false, false, false, false] rfl rfl (by kernel_rfl) (fun _ _ _ h => h) (by first | exact yieldsRow (by rfl) _ _ rfl _ rfl (fun _ h => h.1) Try.underlying29 rfl (szN hm' hd) | exact yieldsRow (by rfl) _ _ rfl _ rfl (fun _ h => h.2) Try.underlying52 rfl infoRen) hHeld ?_
          simp only [Act.put, List.setIfInBounds_toArray, List.set_cons_zero, List.set_cons_succ]
          refine rgTake (i := 1) (N := some 66) (oi := { dst := some 66, op := Op.load 52 (Operand.tmp 7), type := 52, pos := "rename.go:34", after := #[{ on := 2, ground := Ground.gcOnly Departure.lateStores }], guard := none }) (v := _) #[true, true, false, false, false] rfl rfl (by kernel_rfl) (fun _ _ _ h => h) (by first | exact yieldsRow (by rfl) _ _ rfl _ rfl (fun _ h => h.1) Try.underlying29 rfl (szN hm' hd) | exact yieldsRow (by rfl) _ _ rfl _ rfl (fun _ h => h.2) Try.underlying52 rfl infoRen) hHeld ?_
          simp only [Act.put, List.setIfInBounds_toArray, List.set_cons_zero, List.set_cons_succ]
          refine rgCall (i := 2) (N := none) (oi := { dst := none, op := Op.store 29 (Operand.tmp 4) (Operand.tmp 65), type := 0, pos := "rename.go:34", after := #[{ on := 0, ground := Ground.data }, { on := 0, ground := Ground.phase }, { on := 1, ground := Ground.textOnly Departure.lateStores }], guard := none }) #[true, true, true, false, false] rfl rfl (by kernel_rfl) (fun K hK => ?_)
          (refine rgStore (by rfl) 29 _ _ rfl gZ rfl (nm m' d (.slice A1 n c1) H1 N1 (sqS s)) rfl HZ.out (szN hm' hd) (szE rfl rfl hm' hd) (nm_one rfl) ?_; intro w22 hz ho; replace HS := keepAo HS (by omega) ho; replace HR := keepAo HR (by omega) ho; replace HQ := keepAo HQ (by omega) ho; replace HX1 := Lib.hid (HX1.out.only2 ho (fun a e1 e2 => by have := HF1.out a e1 e2; omega)); replace HB := keepBo HB (by omega) ho; clear HZ; have HZ := Lib.hid hz; clear hz ho)
          refine hK.out _ _ ⟨HS.out, HR.out⟩ (fun hHeld => ?_)
          clear hK K
          refine rgCall (i := 3) (N := none) (oi := { dst := none, op := Op.store 52 (Operand.tmp 5) (Operand.tmp 66), type := 0, pos := "rename.go:34", after := #[{ on := 1, ground := Ground.data }, { on := 2, ground := Ground.chain }, { on := 0, ground := Ground.phase }, { on := 1, ground := Ground.phase }, { on := 2, ground := Ground.phase }], guard := none }) #[true, true, true, true, false] rfl rfl (by kernel_rfl) (fun K hK => ?_)
          (refine rgStore (by rfl) 52 _ _ rfl gQ rfl (rA (rU m u s p (Rat.getM m u.dst))) rfl HQ.out infoRen rfl (rA_one _) ?_; intro w23 hz ho; replace HS := keepAo HS (by omega) ho; replace HR := keepAo HR (by omega) ho; replace HZ := keepAo HZ (by omega) ho; replace HX1 := Lib.hid (HX1.out.only2 ho (fun a e1 e2 => by have := HF1.out a e1 e2; omega)); replace HB := keepBo HB (by omega) ho; clear HQ; have HQ := Lib.hid hz; clear hz ho)
          refine hK.out _ _ ⟨HS.out, HR.out⟩ (fun hHeld => ?_)
          clear hK K
          refine rgTake (i := 4) (N := some 6) (oi := { dst := some 6, op := Op.assign (Operand.const (Value.bool true)), type := 4, pos := "rename.go:34", after := #[{ on := 3, ground := Ground.chain }, { on := 0, ground := Ground.phase }, { on := 1, ground := Ground.phase }, { on := 2, ground := Ground.phase }, { on := 3, ground := Ground.phase }], guard := none }) (v := ?_) #[true, true, true, true, true] rfl rfl (by kernel_rfl) (fun _ _ _ h => h) (Or.inl ⟨by rfl, ?_⟩) hHeld ?_
          rotate_left
          · intro w' hSw; (try dsimp only at hSw); skip; go_simp; try with_reducible rfl
          simp only [Act.put, List.setIfInBounds_toArray, List.set_cons_zero, List.set_cons_succ]
          refine rgDone (by kernel_rfl) ?_ _
          go_wp2
          exact bodyPost_ret (res2c rfl _ _ gZ 29 (nm m' d (.slice A1 n c1) H1 N1 (sqS s)) (0, 0) _ gQ 52 (rA (rU m u s p (Rat.getM m u.dst))) (0, 0) _ rfl HZ.out Try.underlying29 rfl (szN hm' hd) rfl HQ.out Try.underlying52 rfl infoRen) rfl ⟨fun h => absurd (hb.symm.trans h) (by decide), fun _ h => absurd (ht.symm.trans h) (by decide), fun _ _ => ⟨A1, c1, rfl, HX1.out, HA1.out.imp_right fun hf => Fresh.mono hf (by omega), HB.out.1⟩⟩
set_option maxRecDepth 100000 in
set_option maxHeartbeats 2000000 in
theorem rone_cases (A : Option Addr) (n c : Nat) (m d : List Int) (h N s : Int) (xs : List Int) (u : UopV) (w : World) (hx : RdA .i64 w A n xs) (hnm : n ≤ 9223372036854775807) (hm : m.length = 16) (hd : d.length = 16) : Calls Try.prog 17 #[.agg (nm m d (.slice A n c) h N s), .agg (uA u)] w fun e w' =>
    (Rat.regB u.dst = false → OneP w w' A m d n xs h N (sqS s) (rU m u s (-1) (-1)) true e) ∧
    (Rat.regB u.dst = true → takeB n h N = false → OneP w w' A m d n xs h N s rZ false e) ∧
    (Rat.regB u.dst = true → takeB n h N = true → OneP w w' A (Rat.setM m u.dst (tkP xs n h N)) d n xs (tkH n h N) (tkN n h N) (sqS s) (rU m u s (tkP xs n h N) (Rat.getM m u.dst)) true e) := by
  have HB := startB w
  have HX := Lib.hid hx
  have HL := Lib.hid hx.lt
  clear hx
  obtain ⟨H1, hTH⟩ : ∃ H1, tkH n h N = H1 := ⟨_, rfl⟩
  obtain ⟨N1, hTN⟩ : ∃ N1, tkN n h N = N1 := ⟨_, rfl⟩
  obtain ⟨p, hTP⟩ : ∃ p, tkP xs n h N = p := ⟨_, rfl⟩
  obtain ⟨m', hm1⟩ : ∃ m', Rat.setM m u.dst p = m' := ⟨_, rfl⟩
  have hm' : m'.length = 16 := by rw [← hm1, setM_len, hm]
  rw [hTH, hTN, hTP, hm1]
  have HM1 := Lib.hid hm1
  have HTH := Lib.hid hTH
  have HTN := Lib.hid hTN
  have HTP := Lib.hid hTP
  clear hm1 hTH hTN hTP
  go_enter Try.func17, Try.ntmps17
  go_wp2_with (first | (refine wlBox rfl 29 _ rfl (nm m d (.slice A n c) h N s) rfl ?_; intro gS w1 hgS hgS' hs hb; have HS := Lib.hid hs; replace HX := Lib.hid (HX.out.below hb); replace HB := keepB HB hb; clear hs hb) | (refine wlBox rfl 50 _ rfl (uA u) rfl ?_; intro gU w2 hgU hgU' hu hb; have HU := Lib.hid hu; replace HS := keepA HS hb; replace HX := Lib.hid (HX.out.below hb); replace HB := keepB HB hb; (try clear fSeq fDst); have fSeq := (cellA HS 35).trans (nm_35 hm hd); have fDst := (cellA HU 20).trans (uA_20 u); clear hu hb) | (refine wlAlloc rfl 29 rfl _ zeroNames ?_; intro gZ w3 hgZ hgZ' hz hb; have HZ := Lib.hid hz; replace HS := keepA HS hb; replace HU := keepA HU hb; replace HX := Lib.hid (HX.out.below hb); replace HB := keepB HB hb; (try clear fSeq fDst); have fSeq := (cellA HS 35).trans (nm_35 hm hd); have fDst := (cellA HU 20).trans (uA_20 u); clear hz hb) | (have hq := HQ; refine wlAlloc rfl 52 rfl _ zeroRen ?_; intro gR w5 hgR hgR' hz hb; have HR := Lib.hid hz; clear hq; replace HS := keepA HS hb; replace HU := keepA HU hb; replace HZ := keepA HZ hb; replace HQ := keepA HQ hb; replace HX := Lib.hid (HX.out.below hb); replace HB := keepB HB hb; (try clear fSeq fDst); have fSeq := (cellA HS 35).trans (nm_35 hm hd); have fDst := (cellA HU 20).trans (uA_20 u); clear hz hb) | (refine wlAlloc rfl 52 rfl _ zeroRen ?_; intro gQ w4 hgQ hgQ' hz hb; have HQ := Lib.hid hz; replace HS := keepA HS hb; replace HU := keepA HU hb; replace HZ := keepA HZ hb; replace HX := Lib.hid (HX.out.below hb); replace HB := keepB HB hb; (try clear fSeq fDst); have fSeq := (cellA HS 35).trans (nm_35 hm hd); have fDst := (cellA HU 20).trans (uA_20 u); clear hz hb) | (refine rowLoad rfl 50 _ rfl _ rfl HU.out Try.underlying50 rfl infoUop ?_) | (refine rowStore rfl 52 _ _ rfl gR rfl (rA (rK m u s 0)) rfl HR.out infoRen rfl (rA_one _) ?_; intro w6 hr ho; replace HS := keepAo HS (by omega) ho; replace HU := keepAo HU (by omega) ho; replace HZ := keepAo HZ (by omega) ho; replace HQ := keepAo HQ (by omega) ho; replace HX := Lib.hid (HX.out.only2 ho (fun a e1 e2 => by have := HL.out a e1 e2; omega)); replace HB := keepBo HB (by omega) ho; (try clear fSeq fDst); have fSeq := (cellA HS 35).trans (nm_35 hm hd); have fDst := (cellA HU 20).trans (uA_20 u); clear HR; have HR := Lib.hid hr; clear hr ho) | (refine partLoad rfl 48 _ rfl gU 17 rfl (uop_src HU.out) Try.underlying48 rfl infoSrc ?_) | (refine wlBuild rfl 52 #[(0, _), (1, _), (3, _), (4, _)] rfl (.agg (rA (rK m u s 0))) (by kernel_rfl) ?_))
  go_loopw [8] (fun i wr => ∃ k : Nat, k ≤ 3 ∧ i = .int .i64 k ∧ Hid (wr.heap[gS]? = some (.cells (nm m d (.slice A n c) h N s) 29 (0, 0))) ∧ Hid (wr.heap[gU]? = some (.cells (uA u) 50 (0, 0))) ∧ Hid (wr.heap[gZ]? = some (.cells (nm zeros16 zeros16 (.slice none 0 0) 0 0 0) 29 (0, 0))) ∧ Hid (wr.heap[gQ]? = some (.cells (rA rZ) 52 (0, 0))) ∧ Hid (wr.heap[gR]? = some (.cells (rA (rK m u s k)) 52 (0, 0))) ∧ Hid (RdA .i64 wr A n xs) ∧ Hid (Below w.heap.size w wr ∧ w.heap.size ≤ wr.heap.size)) (fun i _ => 3 - (intOf i).toNat)
  case atStart => exact ⟨0, by omega, rfl, HS, HU, HZ, HQ, HR, HX, HB⟩
  case round =>
    clear fSeq fDst HS HU HZ HQ HR HX HB
    obtain ⟨k, hk, rfl, HS, HU, HZ, HQ, HR, HX, HB⟩ := hrel
    obtain rfl | rfl | rfl | rfl : k = 0 ∨ k = 1 ∨ k = 2 ∨ k = 3 := by omega
    · go_wp2
      replace HS := keepA1 HS
      replace HU := keepA1 HU
      replace HZ := keepA1 HZ
      replace HQ := keepA1 HQ
      replace HR := keepA1 HR
      replace HX := Lib.hid (HX.out.drew 1)
      replace HB := keepB1 HB
      refine rgStart (S := (fun w' => w'.heap[gS]? = some (.cells (nm m d (.slice A n c) h N s) 29 (0, 0)) ∧ w'.heap[gU]? = some (.cells (uA u) 50 (0, 0)))) (n := 11) #[false, false, false, false, false, false, false, false, false, false, false] (by kernel_rfl) rfl rfl ⟨HS.out, HU.out⟩ (fun hHeld => ?_)
      refine rgTake (i := 0) (N := some 20) (oi := { dst := some 20, op := Op.move (Operand.tmp 8), type := 3, pos := "ref.go:22", after := #[], guard := none }) (v := ?_) #[true, false, false, false, false, false, false, false, false, false, false] rfl rfl (by kernel_rfl) (fun _ _ _ h => h) (Or.inl ⟨by rfl, ?_⟩) hHeld ?_
      rotate_left
      · intro w' hSw; (try dsimp only at hSw); (have s17 := (cell_of_row _ _ 17 _ _ _ hSw.2).trans (uA_17 u); have s18 := (cell_of_row _ _ 18 _ _ _ hSw.2).trans (uA_18 u); have s19 := (cell_of_row _ _ 19 _ _ _ hSw.2).trans (uA_19 u)); go_simp; try with_reducible rfl
      simp only [Act.put, List.setIfInBounds_toArray, List.set_cons_zero, List.set_cons_succ]
      refine rgTake (i := 1) (N := some 21) (oi := { dst := some 21, op := Op.fieldAddr 29 (Operand.tmp 2) 0, type := 0, pos := "ref.go:22", after := #[], guard := none }) (v := ?_) #[true, true, false, false, false, false, false, false, false, false, false] rfl rfl (by kernel_rfl) (fun _ _ _ h => h) (Or.inl ⟨by rfl, ?_⟩) hHeld ?_
      rotate_left
      · intro w' hSw; (try dsimp only at hSw); (have s17 := (cell_of_row _ _ 17 _ _ _ hSw.2).trans (uA_17 u); have s18 := (cell_of_row _ _ 18 _ _ _ hSw.2).trans (uA_18 u); have s19 := (cell_of_row _ _ 19 _ _ _ hSw.2).trans (uA_19 u)); go_simp; try with_reducible rfl
      simp only [Act.put, List.setIfInBounds_toArray, List.set_cons_zero, List.set_cons_succ]
      refine rgTake (i := 2) (N := some 22) (oi := { dst := some 22, op := Op.load 23 (Operand.tmp 21), type := 23, pos := "ref.go:22", after := #[{ on := 1, ground := Ground.data }], guard := none }) (v := _) #[true, true, true, false, false, false, false, false, false, false, false] rfl rfl (by kernel_rfl) (fun _ _ _ h => h) (yieldsMid (by rfl) _ _ rfl gS 0 rfl (ma .i64 m) (fun _ hh => nm_map hh.1) Try.underlying23 rfl (szM hm)) hHeld ?_
      simp only [Act.put, List.setIfInBounds_toArray, List.set_cons_zero, List.set_cons_succ]
      refine rgTake (i := 3) (N := some 23) (oi := { dst := some 23, op := Op.move (Operand.tmp 8), type := 3, pos := "ref.go:22", after := #[], guard := none }) (v := ?_) #[true, true, true, true, false, false, false, false, false, false, false] rfl rfl (by kernel_rfl) (fun _ _ _ h => h) (Or.inl ⟨by rfl, ?_⟩) hHeld ?_
      rotate_left
      · intro w' hSw; (try dsimp only at hSw); (have s17 := (cell_of_row _ _ 17 _ _ _ hSw.2).trans (uA_17 u); have s18 := (cell_of_row _ _ 18 _ _ _ hSw.2).trans (uA_18 u); have s19 := (cell_of_row _ _ 19 _ _ _ hSw.2).trans (uA_19 u)); go_simp; try with_reducible rfl
      simp only [Act.put, List.setIfInBounds_toArray, List.set_cons_zero, List.set_cons_succ]
      refine rgTake (i := 4) (N := some 24) (oi := { dst := some 24, op := Op.fieldAddr 50 (Operand.tmp 3) 5, type := 0, pos := "ref.go:22", after := #[], guard := none }) (v := ?_) #[true, true, true, true, true, false, false, false, false, false, false] rfl rfl (by kernel_rfl) (fun _ _ _ h => h) (Or.inl ⟨by rfl, ?_⟩) hHeld ?_
      rotate_left
      · intro w' hSw; (try dsimp only at hSw); (have s17 := (cell_of_row _ _ 17 _ _ _ hSw.2).trans (uA_17 u); have s18 := (cell_of_row _ _ 18 _ _ _ hSw.2).trans (uA_18 u); have s19 := (cell_of_row _ _ 19 _ _ _ hSw.2).trans (uA_19 u)); go_simp; try with_reducible rfl
      simp only [Act.put, List.setIfInBounds_toArray, List.set_cons_zero, List.set_cons_succ]
      refine rgTake (i := 5) (N := some 25) (oi := { dst := some 25, op := Op.indexAddr 48 (Operand.tmp 24) (Operand.tmp 23), type := 0, pos := "ref.go:22", after := #[{ on := 4, ground := Ground.data }, { on := 3, ground := Ground.data }], guard := none }) (v := ?_) #[true, true, true, true, true, true, false, false, false, false, false] rfl rfl (by kernel_rfl) (fun _ _ _ h => h) (Or.inl ⟨by rfl, ?_⟩) hHeld ?_
      rotate_left
      · intro w' hSw; (try dsimp only at hSw); (have s17 := (cell_of_row _ _ 17 _ _ _ hSw.2).trans (uA_17 u); have s18 := (cell_of_row _ _ 18 _ _ _ hSw.2).trans (uA_18 u); have s19 := (cell_of_row _ _ 19 _ _ _ hSw.2).trans (uA_19 u)); go_simp; try with_reducible rfl
      simp only [Act.put, List.setIfInBounds_toArray, List.set_cons_zero, List.set_cons_succ]
      refine rgTake (i := 6) (N := some 26) (oi := { dst := some 26, op := Op.load 3 (Operand.tmp 25), type := 3, pos := "ref.go:22", after := #[{ on := 5, ground := Ground.data }], guard := none }) (v := ?_) #[true, true, true, true, true, true, true, false, false, false, false] rfl rfl (by kernel_rfl) (fun _ _ _ h => h) (Or.inl ⟨by rfl, ?_⟩) hHeld ?_
      rotate_left
      · intro w' hSw; (try dsimp only at hSw); (have s17 := (cell_of_row _ _ 17 _ _ _ hSw.2).trans (uA_17 u); have s18 := (cell_of_row _ _ 18 _ _ _ hSw.2).trans (uA_18 u); have s19 := (cell_of_row _ _ 19 _ _ _ hSw.2).trans (uA_19 u)); go_simp; try with_reducible rfl
      simp only [Act.put, List.setIfInBounds_toArray, List.set_cons_zero, List.set_cons_succ]
      refine rgTake (i := 8) (N := some 28) (oi := { dst := some 28, op := Op.fieldAddr 52 (Operand.tmp 7) 2, type := 0, pos := "ref.go:22", after := #[], guard := none }) (v := ?_) #[true, true, true, true, true, true, true, false, true, false, false] rfl rfl (by kernel_rfl) (fun _ _ _ h => h) (Or.inl ⟨by rfl, ?_⟩) hHeld ?_
      rotate_left
      · intro w' hSw; (try dsimp only at hSw); (have s17 := (cell_of_row _ _ 17 _ _ _ hSw.2).trans (uA_17 u); have s18 := (cell_of_row _ _ 18 _ _ _ hSw.2).trans (uA_18 u); have s19 := (cell_of_row _ _ 19 _ _ _ hSw.2).trans (uA_19 u)); go_simp; try with_reducible rfl
      simp only [Act.put, List.setIfInBounds_toArray, List.set_cons_zero, List.set_cons_succ]
      refine rgCall (i := 7) (N := some 27) (oi := { dst := some 27, op := Op.call { callee := Callee.value (Operand.func 36), args := #[Operand.tmp 22, Operand.tmp 26], argTypes := #[23, 3] }, type := 3, pos := "ref.go:22", after := #[{ on := 2, ground := Ground.data }, { on := 6, ground := Ground.data }], guard := none }) #[true, true, true, true, true, true, true, true, true, false, false] rfl rfl (by kernel_rfl) (fun K hK => ?_)
      go_simp
      (go_at_call 36; refine (Rat.rget_any m u.s0 _ hm).mono ?_; rintro e w7 ⟨rfl, hb⟩; replace HS := keepA HS hb; replace HU := keepA HU hb; replace HZ := keepA HZ hb; replace HQ := keepA HQ hb; replace HR := keepA HR hb; replace HX := Lib.hid (HX.out.below hb); replace HB := keepB HB hb; clear hb)
      refine hK.out _ _ ⟨HS.out, HU.out⟩ (fun hHeld => ?_)
      (try simp only [Act.put, List.setIfInBounds_toArray, List.set_cons_zero, List.set_cons_succ])
      clear hK K
      refine rgTake (i := 9) (N := some 29) (oi := { dst := some 29, op := Op.indexAddr 48 (Operand.tmp 28) (Operand.tmp 20), type := 0, pos := "ref.go:22", after := #[{ on := 8, ground := Ground.data }, { on := 0, ground := Ground.data }, { on := 0, ground := Ground.phase }, { on := 1, ground := Ground.phase }, { on := 2, ground := Ground.phase }, { on := 3, ground := Ground.phase }, { on := 4, ground := Ground.phase }, { on := 5, ground := Ground.phase }, { on := 6, ground := Ground.phase }, { on := 7, ground := Ground.phase }], guard := none }) (v := ?_) #[true, true, true, true, true, true, true, true, true, true, false] rfl rfl (by kernel_rfl) (fun _ _ _ h => h) (Or.inl ⟨by rfl, ?_⟩) hHeld ?_
      rotate_left
      · intro w' hSw; (try dsimp only at hSw); (have s17 := (cell_of_row _ _ 17 _ _ _ hSw.2).trans (uA_17 u); have s18 := (cell_of_row _ _ 18 _ _ _ hSw.2).trans (uA_18 u); have s19 := (cell_of_row _ _ 19 _ _ _ hSw.2).trans (uA_19 u)); go_simp; try with_reducible rfl
      simp only [Act.put, List.setIfInBounds_toArray, List.set_cons_zero, List.set_cons_succ]
      refine rgCall (i := 10) (N := none) (oi := { dst := none, op := Op.store 3 (Operand.tmp 29) (Operand.tmp 27), type := 0, pos := "ref.go:22", after := #[{ on := 9, ground := Ground.data }, { on := 7, ground := Ground.data }, { on := 7, ground := Ground.chain }, { on := 0, ground := Ground.phase }, { on := 1, ground := Ground.phase }, { on := 2, ground := Ground.phase }, { on := 3, ground := Ground.phase }, { on := 4, ground := Ground.phase }, { on := 5, ground := Ground.phase }, { on := 6, ground := Ground.phase }, { on := 7, ground := Ground.phase }], guard := none }) #[true, true, true, true, true, true, true, true, true, true, true] rfl rfl (by kernel_rfl) (fun K hK => ?_)
      (refine rgCell (by rfl) 3 _ _ rfl gR 24 rfl (.int .i64 (Rat.getM m u.s0)) rfl rfl rfl HR.out (by rw [rA_size]; omega) infoInt1 ?_; intro w8 hr ho; replace HS := keepAo HS (by omega) ho; replace HU := keepAo HU (by omega) ho; replace HZ := keepAo HZ (by omega) ho; replace HQ := keepAo HQ (by omega) ho; replace HX := Lib.hid (HX.out.only2 ho (fun a e1 e2 => by have := HL.out a e1 e2; omega)); replace HB := keepBo HB (by omega) ho; clear HR; have HR : Hid (w8.heap[gR]? = some (.cells (rA (rK m u s 1)) 52 (0, 0))) := hr; clear hr ho)
      refine hK.out _ _ ⟨HS.out, HU.out⟩ (fun hHeld => ?_)
      clear hK K
      refine rgDone (by kernel_rfl) ?_ _
      go_wp2
      go_roundw
      case rel => exact ⟨1, by omega, by go_num, HS, HU, HZ, HQ, HR, HX, HB⟩
      case measure => simp [intOf]
    · go_wp2
      replace HS := keepA1 HS
      replace HU := keepA1 HU
      replace HZ := keepA1 HZ
      replace HQ := keepA1 HQ
      replace HR := keepA1 HR
      replace HX := Lib.hid (HX.out.drew 1)
      replace HB := keepB1 HB
      refine rgStart (S := (fun w' => w'.heap[gS]? = some (.cells (nm m d (.slice A n c) h N s) 29 (0, 0)) ∧ w'.heap[gU]? = some (.cells (uA u) 50 (0, 0)))) (n := 11) #[false, false, false, false, false, false, false, false, false, false, false] (by kernel_rfl) rfl rfl ⟨HS.out, HU.out⟩ (fun hHeld => ?_)
      refine rgTake (i := 0) (N := some 20) (oi := { dst := some 20, op := Op.move (Operand.tmp 8), type := 3, pos := "ref.go:22", after := #[], guard := none }) (v := ?_) #[true, false, false, false, false, false, false, false, false, false, false] rfl rfl (by kernel_rfl) (fun _ _ _ h => h) (Or.inl ⟨by rfl, ?_⟩) hHeld ?_
      rotate_left
      · intro w' hSw; (try dsimp only at hSw); (have s17 := (cell_of_row _ _ 17 _ _ _ hSw.2).trans (uA_17 u); have s18 := (cell_of_row _ _ 18 _ _ _ hSw.2).trans (uA_18 u); have s19 := (cell_of_row _ _ 19 _ _ _ hSw.2).trans (uA_19 u)); go_simp; try with_reducible rfl
      simp only [Act.put, List.setIfInBounds_toArray, List.set_cons_zero, List.set_cons_succ]
      refine rgTake (i := 1) (N := some 21) (oi := { dst := some 21, op := Op.fieldAddr 29 (Operand.tmp 2) 0, type := 0, pos := "ref.go:22", after := #[], guard := none }) (v := ?_) #[true, true, false, false, false, false, false, false, false, false, false] rfl rfl (by kernel_rfl) (fun _ _ _ h => h) (Or.inl ⟨by rfl, ?_⟩) hHeld ?_
      rotate_left
      · intro w' hSw; (try dsimp only at hSw); (have s17 := (cell_of_row _ _ 17 _ _ _ hSw.2).trans (uA_17 u); have s18 := (cell_of_row _ _ 18 _ _ _ hSw.2).trans (uA_18 u); have s19 := (cell_of_row _ _ 19 _ _ _ hSw.2).trans (uA_19 u)); go_simp; try with_reducible rfl
      simp only [Act.put, List.setIfInBounds_toArray, List.set_cons_zero, List.set_cons_succ]
      refine rgTake (i := 2) (N := some 22) (oi := { dst := some 22, op := Op.load 23 (Operand.tmp 21), type := 23, pos := "ref.go:22", after := #[{ on := 1, ground := Ground.data }], guard := none }) (v := _) #[true, true, true, false, false, false, false, false, false, false, false] rfl rfl (by kernel_rfl) (fun _ _ _ h => h) (yieldsMid (by rfl) _ _ rfl gS 0 rfl (ma .i64 m) (fun _ hh => nm_map hh.1) Try.underlying23 rfl (szM hm)) hHeld ?_
      simp only [Act.put, List.setIfInBounds_toArray, List.set_cons_zero, List.set_cons_succ]
      refine rgTake (i := 3) (N := some 23) (oi := { dst := some 23, op := Op.move (Operand.tmp 8), type := 3, pos := "ref.go:22", after := #[], guard := none }) (v := ?_) #[true, true, true, true, false, false, false, false, false, false, false] rfl rfl (by kernel_rfl) (fun _ _ _ h => h) (Or.inl ⟨by rfl, ?_⟩) hHeld ?_
      rotate_left
      · intro w' hSw; (try dsimp only at hSw); (have s17 := (cell_of_row _ _ 17 _ _ _ hSw.2).trans (uA_17 u); have s18 := (cell_of_row _ _ 18 _ _ _ hSw.2).trans (uA_18 u); have s19 := (cell_of_row _ _ 19 _ _ _ hSw.2).trans (uA_19 u)); go_simp; try with_reducible rfl
      simp only [Act.put, List.setIfInBounds_toArray, List.set_cons_zero, List.set_cons_succ]
      refine rgTake (i := 4) (N := some 24) (oi := { dst := some 24, op := Op.fieldAddr 50 (Operand.tmp 3) 5, type := 0, pos := "ref.go:22", after := #[], guard := none }) (v := ?_) #[true, true, true, true, true, false, false, false, false, false, false] rfl rfl (by kernel_rfl) (fun _ _ _ h => h) (Or.inl ⟨by rfl, ?_⟩) hHeld ?_
      rotate_left
      · intro w' hSw; (try dsimp only at hSw); (have s17 := (cell_of_row _ _ 17 _ _ _ hSw.2).trans (uA_17 u); have s18 := (cell_of_row _ _ 18 _ _ _ hSw.2).trans (uA_18 u); have s19 := (cell_of_row _ _ 19 _ _ _ hSw.2).trans (uA_19 u)); go_simp; try with_reducible rfl
      simp only [Act.put, List.setIfInBounds_toArray, List.set_cons_zero, List.set_cons_succ]
      refine rgTake (i := 5) (N := some 25) (oi := { dst := some 25, op := Op.indexAddr 48 (Operand.tmp 24) (Operand.tmp 23), type := 0, pos := "ref.go:22", after := #[{ on := 4, ground := Ground.data }, { on := 3, ground := Ground.data }], guard := none }) (v := ?_) #[true, true, true, true, true, true, false, false, false, false, false] rfl rfl (by kernel_rfl) (fun _ _ _ h => h) (Or.inl ⟨by rfl, ?_⟩) hHeld ?_
      rotate_left
      · intro w' hSw; (try dsimp only at hSw); (have s17 := (cell_of_row _ _ 17 _ _ _ hSw.2).trans (uA_17 u); have s18 := (cell_of_row _ _ 18 _ _ _ hSw.2).trans (uA_18 u); have s19 := (cell_of_row _ _ 19 _ _ _ hSw.2).trans (uA_19 u)); go_simp; try with_reducible rfl
      simp only [Act.put, List.setIfInBounds_toArray, List.set_cons_zero, List.set_cons_succ]
      refine rgTake (i := 6) (N := some 26) (oi := { dst := some 26, op := Op.load 3 (Operand.tmp 25), type := 3, pos := "ref.go:22", after := #[{ on := 5, ground := Ground.data }], guard := none }) (v := ?_) #[true, true, true, true, true, true, true, false, false, false, false] rfl rfl (by kernel_rfl) (fun _ _ _ h => h) (Or.inl ⟨by rfl, ?_⟩) hHeld ?_
      rotate_left
      · intro w' hSw; (try dsimp only at hSw); (have s17 := (cell_of_row _ _ 17 _ _ _ hSw.2).trans (uA_17 u); have s18 := (cell_of_row _ _ 18 _ _ _ hSw.2).trans (uA_18 u); have s19 := (cell_of_row _ _ 19 _ _ _ hSw.2).trans (uA_19 u)); go_simp; try with_reducible rfl
      simp only [Act.put, List.setIfInBounds_toArray, List.set_cons_zero, List.set_cons_succ]
      refine rgTake (i := 8) (N := some 28) (oi := { dst := some 28, op := Op.fieldAddr 52 (Operand.tmp 7) 2, type := 0, pos := "ref.go:22", after := #[], guard := none }) (v := ?_) #[true, true, true, true, true, true, true, false, true, false, false] rfl rfl (by kernel_rfl) (fun _ _ _ h => h) (Or.inl ⟨by rfl, ?_⟩) hHeld ?_
      rotate_left
      · intro w' hSw; (try dsimp only at hSw); (have s17 := (cell_of_row _ _ 17 _ _ _ hSw.2).trans (uA_17 u); have s18 := (cell_of_row _ _ 18 _ _ _ hSw.2).trans (uA_18 u); have s19 := (cell_of_row _ _ 19 _ _ _ hSw.2).trans (uA_19 u)); go_simp; try with_reducible rfl
      simp only [Act.put, List.setIfInBounds_toArray, List.set_cons_zero, List.set_cons_succ]
      refine rgCall (i := 7) (N := some 27) (oi := { dst := some 27, op := Op.call { callee := Callee.value (Operand.func 36), args := #[Operand.tmp 22, Operand.tmp 26], argTypes := #[23, 3] }, type := 3, pos := "ref.go:22", after := #[{ on := 2, ground := Ground.data }, { on := 6, ground := Ground.data }], guard := none }) #[true, true, true, true, true, true, true, true, true, false, false] rfl rfl (by kernel_rfl) (fun K hK => ?_)
      go_simp
      (go_at_call 36; refine (Rat.rget_any m u.s1 _ hm).mono ?_; rintro e w7 ⟨rfl, hb⟩; replace HS := keepA HS hb; replace HU := keepA HU hb; replace HZ := keepA HZ hb; replace HQ := keepA HQ hb; replace HR := keepA HR hb; replace HX := Lib.hid (HX.out.below hb); replace HB := keepB HB hb; clear hb)
      refine hK.out _ _ ⟨HS.out, HU.out⟩ (fun hHeld => ?_)
      (try simp only [Act.put, List.setIfInBounds_toArray, List.set_cons_zero, List.set_cons_succ])
      clear hK K
      refine rgTake (i := 9) (N := some 29) (oi := { dst := some 29, op := Op.indexAddr 48 (Operand.tmp 28) (Operand.tmp 20), type := 0, pos := "ref.go:22", after := #[{ on := 8, ground := Ground.data }, { on := 0, ground := Ground.data }, { on := 0, ground := Ground.phase }, { on := 1, ground := Ground.phase }, { on := 2, ground := Ground.phase }, { on := 3, ground := Ground.phase }, { on := 4, ground := Ground.phase }, { on := 5, ground := Ground.phase }, { on := 6, ground := Ground.phase }, { on := 7, ground := Ground.phase }], guard := none }) (v := ?_) #[true, true, true, true, true, true, true, true, true, true, false] rfl rfl (by kernel_rfl) (fun _ _ _ h => h) (Or.inl ⟨by rfl, ?_⟩) hHeld ?_
      rotate_left
      · intro w' hSw; (try dsimp only at hSw); (have s17 := (cell_of_row _ _ 17 _ _ _ hSw.2).trans (uA_17 u); have s18 := (cell_of_row _ _ 18 _ _ _ hSw.2).trans (uA_18 u); have s19 := (cell_of_row _ _ 19 _ _ _ hSw.2).trans (uA_19 u)); go_simp; try with_reducible rfl
      simp only [Act.put, List.setIfInBounds_toArray, List.set_cons_zero, List.set_cons_succ]
      refine rgCall (i := 10) (N := none) (oi := { dst := none, op := Op.store 3 (Operand.tmp 29) (Operand.tmp 27), type := 0, pos := "ref.go:22", after := #[{ on := 9, ground := Ground.data }, { on := 7, ground := Ground.data }, { on := 7, ground := Ground.chain }, { on := 0, ground := Ground.phase }, { on := 1, ground := Ground.phase }, { on := 2, ground := Ground.phase }, { on := 3, ground := Ground.phase }, { on := 4, ground := Ground.phase }, { on := 5, ground := Ground.phase }, { on := 6, ground := Ground.phase }, { on := 7, ground := Ground.phase }], guard := none }) #[true, true, true, true, true, true, true, true, true, true, true] rfl rfl (by kernel_rfl) (fun K hK => ?_)
      (refine rgCell (by rfl) 3 _ _ rfl gR 25 rfl (.int .i64 (Rat.getM m u.s1)) rfl rfl rfl HR.out (by rw [rA_size]; omega) infoInt1 ?_; intro w8 hr ho; replace HS := keepAo HS (by omega) ho; replace HU := keepAo HU (by omega) ho; replace HZ := keepAo HZ (by omega) ho; replace HQ := keepAo HQ (by omega) ho; replace HX := Lib.hid (HX.out.only2 ho (fun a e1 e2 => by have := HL.out a e1 e2; omega)); replace HB := keepBo HB (by omega) ho; clear HR; have HR : Hid (w8.heap[gR]? = some (.cells (rA (rK m u s 2)) 52 (0, 0))) := hr; clear hr ho)
      refine hK.out _ _ ⟨HS.out, HU.out⟩ (fun hHeld => ?_)
      clear hK K
      refine rgDone (by kernel_rfl) ?_ _
      go_wp2
      go_roundw
      case rel => exact ⟨2, by omega, by go_num, HS, HU, HZ, HQ, HR, HX, HB⟩
      case measure => simp [intOf]
    · go_wp2
      replace HS := keepA1 HS
      replace HU := keepA1 HU
      replace HZ := keepA1 HZ
      replace HQ := keepA1 HQ
      replace HR := keepA1 HR
      replace HX := Lib.hid (HX.out.drew 1)
      replace HB := keepB1 HB
      refine rgStart (S := (fun w' => w'.heap[gS]? = some (.cells (nm m d (.slice A n c) h N s) 29 (0, 0)) ∧ w'.heap[gU]? = some (.cells (uA u) 50 (0, 0)))) (n := 11) #[false, false, false, false, false, false, false, false, false, false, false] (by kernel_rfl) rfl rfl ⟨HS.out, HU.out⟩ (fun hHeld => ?_)
      refine rgTake (i := 0) (N := some 20) (oi := { dst := some 20, op := Op.move (Operand.tmp 8), type := 3, pos := "ref.go:22", after := #[], guard := none }) (v := ?_) #[true, false, false, false, false, false, false, false, false, false, false] rfl rfl (by kernel_rfl) (fun _ _ _ h => h) (Or.inl ⟨by rfl, ?_⟩) hHeld ?_
      rotate_left
      · intro w' hSw; (try dsimp only at hSw); (have s17 := (cell_of_row _ _ 17 _ _ _ hSw.2).trans (uA_17 u); have s18 := (cell_of_row _ _ 18 _ _ _ hSw.2).trans (uA_18 u); have s19 := (cell_of_row _ _ 19 _ _ _ hSw.2).trans (uA_19 u)); go_simp; try with_reducible rfl
      simp only [Act.put, List.setIfInBounds_toArray, List.set_cons_zero, List.set_cons_succ]
      refine rgTake (i := 1) (N := some 21) (oi := { dst := some 21, op := Op.fieldAddr 29 (Operand.tmp 2) 0, type := 0, pos := "ref.go:22", after := #[], guard := none }) (v := ?_) #[true, true, false, false, false, false, false, false, false, false, false] rfl rfl (by kernel_rfl) (fun _ _ _ h => h) (Or.inl ⟨by rfl, ?_⟩) hHeld ?_
      rotate_left
      · intro w' hSw; (try dsimp only at hSw); (have s17 := (cell_of_row _ _ 17 _ _ _ hSw.2).trans (uA_17 u); have s18 := (cell_of_row _ _ 18 _ _ _ hSw.2).trans (uA_18 u); have s19 := (cell_of_row _ _ 19 _ _ _ hSw.2).trans (uA_19 u)); go_simp; try with_reducible rfl
      simp only [Act.put, List.setIfInBounds_toArray, List.set_cons_zero, List.set_cons_succ]
      refine rgTake (i := 2) (N := some 22) (oi := { dst := some 22, op := Op.load 23 (Operand.tmp 21), type := 23, pos := "ref.go:22", after := #[{ on := 1, ground := Ground.data }], guard := none }) (v := _) #[true, true, true, false, false, false, false, false, false, false, false] rfl rfl (by kernel_rfl) (fun _ _ _ h => h) (yieldsMid (by rfl) _ _ rfl gS 0 rfl (ma .i64 m) (fun _ hh => nm_map hh.1) Try.underlying23 rfl (szM hm)) hHeld ?_
      simp only [Act.put, List.setIfInBounds_toArray, List.set_cons_zero, List.set_cons_succ]
      refine rgTake (i := 3) (N := some 23) (oi := { dst := some 23, op := Op.move (Operand.tmp 8), type := 3, pos := "ref.go:22", after := #[], guard := none }) (v := ?_) #[true, true, true, true, false, false, false, false, false, false, false] rfl rfl (by kernel_rfl) (fun _ _ _ h => h) (Or.inl ⟨by rfl, ?_⟩) hHeld ?_
      rotate_left
      · intro w' hSw; (try dsimp only at hSw); (have s17 := (cell_of_row _ _ 17 _ _ _ hSw.2).trans (uA_17 u); have s18 := (cell_of_row _ _ 18 _ _ _ hSw.2).trans (uA_18 u); have s19 := (cell_of_row _ _ 19 _ _ _ hSw.2).trans (uA_19 u)); go_simp; try with_reducible rfl
      simp only [Act.put, List.setIfInBounds_toArray, List.set_cons_zero, List.set_cons_succ]
      refine rgTake (i := 4) (N := some 24) (oi := { dst := some 24, op := Op.fieldAddr 50 (Operand.tmp 3) 5, type := 0, pos := "ref.go:22", after := #[], guard := none }) (v := ?_) #[true, true, true, true, true, false, false, false, false, false, false] rfl rfl (by kernel_rfl) (fun _ _ _ h => h) (Or.inl ⟨by rfl, ?_⟩) hHeld ?_
      rotate_left
      · intro w' hSw; (try dsimp only at hSw); (have s17 := (cell_of_row _ _ 17 _ _ _ hSw.2).trans (uA_17 u); have s18 := (cell_of_row _ _ 18 _ _ _ hSw.2).trans (uA_18 u); have s19 := (cell_of_row _ _ 19 _ _ _ hSw.2).trans (uA_19 u)); go_simp; try with_reducible rfl
      simp only [Act.put, List.setIfInBounds_toArray, List.set_cons_zero, List.set_cons_succ]
      refine rgTake (i := 5) (N := some 25) (oi := { dst := some 25, op := Op.indexAddr 48 (Operand.tmp 24) (Operand.tmp 23), type := 0, pos := "ref.go:22", after := #[{ on := 4, ground := Ground.data }, { on := 3, ground := Ground.data }], guard := none }) (v := ?_) #[true, true, true, true, true, true, false, false, false, false, false] rfl rfl (by kernel_rfl) (fun _ _ _ h => h) (Or.inl ⟨by rfl, ?_⟩) hHeld ?_
      rotate_left
      · intro w' hSw; (try dsimp only at hSw); (have s17 := (cell_of_row _ _ 17 _ _ _ hSw.2).trans (uA_17 u); have s18 := (cell_of_row _ _ 18 _ _ _ hSw.2).trans (uA_18 u); have s19 := (cell_of_row _ _ 19 _ _ _ hSw.2).trans (uA_19 u)); go_simp; try with_reducible rfl
      simp only [Act.put, List.setIfInBounds_toArray, List.set_cons_zero, List.set_cons_succ]
      refine rgTake (i := 6) (N := some 26) (oi := { dst := some 26, op := Op.load 3 (Operand.tmp 25), type := 3, pos := "ref.go:22", after := #[{ on := 5, ground := Ground.data }], guard := none }) (v := ?_) #[true, true, true, true, true, true, true, false, false, false, false] rfl rfl (by kernel_rfl) (fun _ _ _ h => h) (Or.inl ⟨by rfl, ?_⟩) hHeld ?_
      rotate_left
      · intro w' hSw; (try dsimp only at hSw); (have s17 := (cell_of_row _ _ 17 _ _ _ hSw.2).trans (uA_17 u); have s18 := (cell_of_row _ _ 18 _ _ _ hSw.2).trans (uA_18 u); have s19 := (cell_of_row _ _ 19 _ _ _ hSw.2).trans (uA_19 u)); go_simp; try with_reducible rfl
      simp only [Act.put, List.setIfInBounds_toArray, List.set_cons_zero, List.set_cons_succ]
      refine rgTake (i := 8) (N := some 28) (oi := { dst := some 28, op := Op.fieldAddr 52 (Operand.tmp 7) 2, type := 0, pos := "ref.go:22", after := #[], guard := none }) (v := ?_) #[true, true, true, true, true, true, true, false, true, false, false] rfl rfl (by kernel_rfl) (fun _ _ _ h => h) (Or.inl ⟨by rfl, ?_⟩) hHeld ?_
      rotate_left
      · intro w' hSw; (try dsimp only at hSw); (have s17 := (cell_of_row _ _ 17 _ _ _ hSw.2).trans (uA_17 u); have s18 := (cell_of_row _ _ 18 _ _ _ hSw.2).trans (uA_18 u); have s19 := (cell_of_row _ _ 19 _ _ _ hSw.2).trans (uA_19 u)); go_simp; try with_reducible rfl
      simp only [Act.put, List.setIfInBounds_toArray, List.set_cons_zero, List.set_cons_succ]
      refine rgCall (i := 7) (N := some 27) (oi := { dst := some 27, op := Op.call { callee := Callee.value (Operand.func 36), args := #[Operand.tmp 22, Operand.tmp 26], argTypes := #[23, 3] }, type := 3, pos := "ref.go:22", after := #[{ on := 2, ground := Ground.data }, { on := 6, ground := Ground.data }], guard := none }) #[true, true, true, true, true, true, true, true, true, false, false] rfl rfl (by kernel_rfl) (fun K hK => ?_)
      go_simp
      (go_at_call 36; refine (Rat.rget_any m u.s2 _ hm).mono ?_; rintro e w7 ⟨rfl, hb⟩; replace HS := keepA HS hb; replace HU := keepA HU hb; replace HZ := keepA HZ hb; replace HQ := keepA HQ hb; replace HR := keepA HR hb; replace HX := Lib.hid (HX.out.below hb); replace HB := keepB HB hb; clear hb)
      refine hK.out _ _ ⟨HS.out, HU.out⟩ (fun hHeld => ?_)
      (try simp only [Act.put, List.setIfInBounds_toArray, List.set_cons_zero, List.set_cons_succ])
      clear hK K
      refine rgTake (i := 9) (N := some 29) (oi := { dst := some 29, op := Op.indexAddr 48 (Operand.tmp 28) (Operand.tmp 20), type := 0, pos := "ref.go:22", after := #[{ on := 8, ground := Ground.data }, { on := 0, ground := Ground.data }, { on := 0, ground := Ground.phase }, { on := 1, ground := Ground.phase }, { on := 2, ground := Ground.phase }, { on := 3, ground := Ground.phase }, { on := 4, ground := Ground.phase }, { on := 5, ground := Ground.phase }, { on := 6, ground := Ground.phase }, { on := 7, ground := Ground.phase }], guard := none }) (v := ?_) #[true, true, true, true, true, true, true, true, true, true, false] rfl rfl (by kernel_rfl) (fun _ _ _ h => h) (Or.inl ⟨by rfl, ?_⟩) hHeld ?_
      rotate_left
      · intro w' hSw; (try dsimp only at hSw); (have s17 := (cell_of_row _ _ 17 _ _ _ hSw.2).trans (uA_17 u); have s18 := (cell_of_row _ _ 18 _ _ _ hSw.2).trans (uA_18 u); have s19 := (cell_of_row _ _ 19 _ _ _ hSw.2).trans (uA_19 u)); go_simp; try with_reducible rfl
      simp only [Act.put, List.setIfInBounds_toArray, List.set_cons_zero, List.set_cons_succ]
      refine rgCall (i := 10) (N := none) (oi := { dst := none, op := Op.store 3 (Operand.tmp 29) (Operand.tmp 27), type := 0, pos := "ref.go:22", after := #[{ on := 9, ground := Ground.data }, { on := 7, ground := Ground.data }, { on := 7, ground := Ground.chain }, { on := 0, ground := Ground.phase }, { on := 1, ground := Ground.phase }, { on := 2, ground := Ground.phase }, { on := 3, ground := Ground.phase }, { on := 4, ground := Ground.phase }, { on := 5, ground := Ground.phase }, { on := 6, ground := Ground.phase }, { on := 7, ground := Ground.phase }], guard := none }) #[true, true, true, true, true, true, true, true, true, true, true] rfl rfl (by kernel_rfl) (fun K hK => ?_)
      (refine rgCell (by rfl) 3 _ _ rfl gR 26 rfl (.int .i64 (Rat.getM m u.s2)) rfl rfl rfl HR.out (by rw [rA_size]; omega) infoInt1 ?_; intro w8 hr ho; replace HS := keepAo HS (by omega) ho; replace HU := keepAo HU (by omega) ho; replace HZ := keepAo HZ (by omega) ho; replace HQ := keepAo HQ (by omega) ho; replace HX := Lib.hid (HX.out.only2 ho (fun a e1 e2 => by have := HL.out a e1 e2; omega)); replace HB := keepBo HB (by omega) ho; clear HR; have HR : Hid (w8.heap[gR]? = some (.cells (rA (rK m u s 3)) 52 (0, 0))) := hr; clear hr ho)
      refine hK.out _ _ ⟨HS.out, HU.out⟩ (fun hHeld => ?_)
      clear hK K
      refine rgDone (by kernel_rfl) ?_ _
      go_wp2
      go_roundw
      case rel => exact ⟨3, by omega, by go_num, HS, HU, HZ, HQ, HR, HX, HB⟩
      case measure => simp [intOf]
    · (try clear fSeq fDst); have fSeq := (cellA HS 35).trans (nm_35 hm hd); have fDst := (cellA HU 20).trans (uA_20 u)
      cases hb : Rat.regB u.dst with
      | false =>
        replace HR : Hid (wr.heap[gR]? = some (.cells (rA (rU m u s (-1) (-1))) 52 (0, 0))) := HR
        go_wp2_with (first | (refine rowLoad rfl 50 _ rfl _ rfl HU.out Try.underlying50 rfl infoUop ?_) | (go_at_call 26; refine (rwrites_any u _).mono ?_; rintro e w9 ⟨rfl, hb⟩; replace HS := keepA HS hb; replace HU := keepA HU hb; replace HZ := keepA HZ hb; replace HQ := keepA HQ hb; replace HR := keepA HR hb; replace HX := Lib.hid (HX.out.below hb); replace HB := keepB HB hb; (try clear fSeq fDst); have fSeq := (cellA HS 35).trans (nm_35 hm hd); have fDst := (cellA HU 20).trans (uA_20 u); clear hb) | (refine cellStore rfl 27 _ _ rfl gS 35 rfl (.int .u64 (sqS s)) rfl rfl rfl HS.out (by rw [nm_size hm hd]; omega) infoSeq ?_; intro w10 hs ho; replace HU := keepAo HU (by omega) ho; replace HZ := keepAo HZ (by omega) ho; replace HQ := keepAo HQ (by omega) ho; replace HR := keepAo HR (by omega) ho; replace HX := Lib.hid (HX.out.only2 ho (fun a e1 e2 => by have := HL.out a e1 e2; omega)); replace HB := keepBo HB (by omega) ho; rw [nm_set35 hm hd] at hs; clear HS; have HS := Lib.hid hs; clear hs ho fSeq))
        replace HS := keepA1 HS
        replace HZ := keepA1 HZ
        replace HQ := keepA1 HQ
        replace HR := keepA1 HR
        replace HX := Lib.hid (HX.out.drew 1)
        replace HB := keepB1 HB
        refine rgStart (S := (fun w' => w'.heap[gS]? = some (.cells (nm m d (.slice A n c) h N (sqS s)) 29 (0, 0)) ∧ w'.heap[gR]? = some (.cells (rA (rU m u s (-1) (-1))) 52 (0, 0)))) (n := 5) #[false, false, false, false, false] (by kernel_rfl) rfl rfl ⟨HS.out, HR.out⟩ (fun hHeld => ?_)
        refine rgTake (i := 0) (N := some 64) (oi := { dst := some 64, op := Op.load 29 (Operand.tmp 2), type := 29, pos := "ref.go:35", after := #[], guard := none }) (v := _) #[true, false, false, false, false] rfl rfl (by kernel_rfl) (fun _ _ _ h => h) (by first | exact yieldsRow (by rfl) _ _ rfl _ rfl (fun _ h => h.1) Try.underlying29 rfl (szN hm hd) | exact yieldsRow (by rfl) _ _ rfl _ rfl (fun _ h => h.2) Try.underlying52 rfl infoRen) hHeld ?_
        simp only [Act.put, List.setIfInBounds_toArray, List.set_cons_zero, List.set_cons_succ]
        refine rgTake (i := 1) (N := some 65) (oi := { dst := some 65, op := Op.load 52 (Operand.tmp 7), type := 52, pos := "ref.go:35", after := #[{ on := 2, ground := Ground.gcOnly Departure.lateStores }], guard := none }) (v := _) #[true, true, false, false, false] rfl rfl (by kernel_rfl) (fun _ _ _ h => h) (by first | exact yieldsRow (by rfl) _ _ rfl _ rfl (fun _ h => h.1) Try.underlying29 rfl (szN hm hd) | exact yieldsRow (by rfl) _ _ rfl _ rfl (fun _ h => h.2) Try.underlying52 rfl infoRen) hHeld ?_
        simp only [Act.put, List.setIfInBounds_toArray, List.set_cons_zero, List.set_cons_succ]
        refine rgCall (i := 2) (N := none) (oi := { dst := none, op := Op.store 29 (Operand.tmp 4) (Operand.tmp 64), type := 0, pos := "ref.go:35", after := #[{ on := 0, ground := Ground.data }, { on := 0, ground := Ground.phase }, { on := 1, ground := Ground.textOnly Departure.lateStores }], guard := none }) #[true, true, true, false, false] rfl rfl (by kernel_rfl) (fun K hK => ?_)
        (refine rgStore (by rfl) 29 _ _ rfl gZ rfl (nm m d (.slice A n c) h N (sqS s)) rfl HZ.out (szN hm hd) (szE rfl rfl hm hd) (nm_one rfl) ?_; intro w22 hz ho; replace HS := keepAo HS (by omega) ho; replace HR := keepAo HR (by omega) ho; replace HQ := keepAo HQ (by omega) ho; replace HX := Lib.hid (HX.out.only2 ho (fun a e1 e2 => by have := HL.out a e1 e2; omega)); replace HB := keepBo HB (by omega) ho; clear HZ; have HZ := Lib.hid hz; clear hz ho)
        refine hK.out _ _ ⟨HS.out, HR.out⟩ (fun hHeld => ?_)
        clear hK K
        refine rgCall (i := 3) (N := none) (oi := { dst := none, op := Op.store 52 (Operand.tmp 5) (Operand.tmp 65), type := 0, pos := "ref.go:35", after := #[{ on := 1, ground := Ground.data }, { on := 2, ground := Ground.chain }, { on := 0, ground := Ground.phase }, { on := 1, ground := Ground.phase }, { on := 2, ground := Ground.phase }], guard := none }) #[true, true, true, true, false] rfl rfl (by kernel_rfl) (fun K hK => ?_)
        (refine rgStore (by rfl) 52 _ _ rfl gQ rfl (rA (rU m u s (-1) (-1))) rfl HQ.out infoRen rfl (rA_one _) ?_; intro w23 hz ho; replace HS := keepAo HS (by omega) ho; replace HR := keepAo HR (by omega) ho; replace HZ := keepAo HZ (by omega) ho; replace HX := Lib.hid (HX.out.only2 ho (fun a e1 e2 => by have := HL.out a e1 e2; omega)); replace HB := keepBo HB (by omega) ho; clear HQ; have HQ := Lib.hid hz; clear hz ho)
        refine hK.out _ _ ⟨HS.out, HR.out⟩ (fun hHeld => ?_)
        clear hK K
        refine rgTake (i := 4) (N := some 6) (oi := { dst := some 6, op := Op.assign (Operand.const (Value.bool true)), type := 4, pos := "ref.go:35", after := #[{ on := 3, ground := Ground.chain }, { on := 0, ground := Ground.phase }, { on := 1, ground := Ground.phase }, { on := 2, ground := Ground.phase }, { on := 3, ground := Ground.phase }], guard := none }) (v := ?_) #[true, true, true, true, true] rfl rfl (by kernel_rfl) (fun _ _ _ h => h) (Or.inl ⟨by rfl, ?_⟩) hHeld ?_
        rotate_left
        · intro w' hSw; (try dsimp only at hSw); skip; go_simp; try with_reducible rfl
        simp only [Act.put, List.setIfInBounds_toArray, List.set_cons_zero, List.set_cons_succ]
        refine rgDone (by kernel_rfl) ?_ _
        go_wp2
        exact bodyPost_ret (res2c rfl _ _ gZ 29 (nm m d (.slice A n c) h N (sqS s)) (0, 0) _ gQ 52 (rA (rU m u s (-1) (-1))) (0, 0) _ rfl HZ.out Try.underlying29 rfl (szN hm hd) rfl HQ.out Try.underlying52 rfl infoRen) rfl ⟨fun _ => ⟨A, c, rfl, HX.out, .inl rfl, HB.out.1⟩, fun h => absurd (hb.symm.trans h) (by decide), fun h => absurd (hb.symm.trans h) (by decide)⟩
      | true =>
        cases ht : takeB n h N with
        | false =>
          go_wp2_with (first | (refine rowLoad rfl 50 _ rfl _ rfl HU.out Try.underlying50 rfl infoUop ?_) | (go_at_call 26; refine (rwrites_any u _).mono ?_; rintro e w9 ⟨rfl, hb⟩; replace HS := keepA HS hb; replace HU := keepA HU hb; replace HZ := keepA HZ hb; replace HQ := keepA HQ hb; replace HR := keepA HR hb; replace HX := Lib.hid (HX.out.below hb); replace HB := keepB HB hb; (try clear fSeq fDst); have fSeq := (cellA HS 35).trans (nm_35 hm hd); have fDst := (cellA HU 20).trans (uA_20 u); clear hb) | (refine partLoad rfl 26 _ rfl gS 32 rfl (nm_free hm hd HS.out) Try.underlying26 rfl infoFr ?_) | (go_at_call 37; refine (rtake_keep A n c h N xs _ HX.out hnm).mono ?_; rintro e w11 ⟨A1, c1, rfl, hx1, hA, hb⟩; rw [HTH.out, HTN.out, HTP.out, ht]; have hlt : gR + 1 ≤ _ := (Array.getElem?_eq_some_iff.1 HR.out).1; have HA1 := Lib.hid (hA.imp_right fun hf => Fresh.mono hf hlt); have HF1 := Lib.hid (far HL.out HA1.out); clear hlt hA; replace HS := keepA HS hb; replace HU := keepA HU hb; replace HZ := keepA HZ hb; replace HQ := keepA HQ hb; replace HR := keepA HR hb; replace HX := Lib.hid (HX.out.below hb); replace HB := keepB HB hb; have HX1 := Lib.hid hx1; (try clear fSeq fDst); have fSeq := (cellA HS 35).trans (nm_35 hm hd); have fDst := (cellA HU 20).trans (uA_20 u); clear hb hx1) | (refine wlAlloc rfl 26 rfl _ zeroFr ?_; intro gF w12 hgF hgF' hz hb; have hRF : gR < gF := Nat.lt_of_lt_of_le (Array.getElem?_eq_some_iff.1 HR.out).1 hgF; have HFF := Lib.hid hz; have HG1 : Hid (∀ a, A1 = some a → 0 < n → a.block ≠ gF) := Lib.hid (fun a e1 e2 => Nat.ne_of_lt (Nat.lt_of_lt_of_le (HX1.out.lt a e1 e2) hgF)); replace HS := keepA HS hb; replace HU := keepA HU hb; replace HZ := keepA HZ hb; replace HQ := keepA HQ hb; replace HR := keepA HR hb; replace HX1 := Lib.hid (HX1.out.below hb); replace HB := keepB HB hb; replace HX := Lib.hid (HX.out.below hb); (try clear fSeq fDst); have fSeq := (cellA HS 35).trans (nm_35 hm hd); have fDst := (cellA HU 20).trans (uA_20 u); clear hz hb) | (refine rowStore rfl 26 _ _ rfl gF rfl #[.slice A1 n c1, .int .i64 H1, .int .i64 N1] rfl HFF.out infoFr rfl (by simp [Value.oneCell']) ?_; intro w13 hz ho; replace HS := keepAo HS (by omega) ho; replace HU := keepAo HU (by omega) ho; replace HZ := keepAo HZ (by omega) ho; replace HQ := keepAo HQ (by omega) ho; replace HR := keepAo HR (by omega) ho; replace HX1 := Lib.hid (HX1.out.only2 ho HG1.out); replace HX := Lib.hid (HX.out.only2 ho (fun a e1 e2 => by have := HL.out a e1 e2; omega)); replace HB := keepBo HB (by omega) ho; (try clear fSeq fDst); have fSeq := (cellA HS 35).trans (nm_35 hm hd); have fDst := (cellA HU 20).trans (uA_20 u); clear HFF; have HFF := Lib.hid hz; clear hz ho) | (refine rowLoad rfl 29 _ rfl _ rfl HS.out Try.underlying29 rfl (szN hm hd) ?_) | (refine rowStore rfl 29 _ _ rfl gZ rfl (nm m d (.slice A n c) h N s) rfl HZ.out (szN hm hd) (szE rfl rfl hm hd) (nm_one rfl) ?_; intro w14 hz ho; replace HQ := keepAo HQ (by omega) ho; replace HX := Lib.hid (HX.out.only2 ho (fun a e1 e2 => by have := HL.out a e1 e2; omega)); replace HB := keepBo HB (by omega) ho; clear HZ; have HZ := Lib.hid hz; clear hz ho fSeq fDst) | (refine wlBuild rfl 52 #[] rfl (.agg (rA rZ)) (by kernel_rfl) ?_) | (refine rowStore rfl 52 _ _ rfl gQ rfl (rA rZ) rfl HQ.out infoRen rfl (rA_one _) ?_; intro w15 hq ho; replace HZ := keepAo HZ (by omega) ho; replace HX := Lib.hid (HX.out.only2 ho (fun a e1 e2 => by have := HL.out a e1 e2; omega)); replace HB := keepBo HB (by omega) ho; clear HQ; have HQ := Lib.hid hq; clear hq ho))
          exact bodyPost_ret (res2c rfl _ _ gZ 29 (nm m d (.slice A n c) h N s) (0, 0) _ gQ 52 (rA rZ) (0, 0) _ rfl HZ.out Try.underlying29 rfl (szN hm hd) rfl HQ.out Try.underlying52 rfl infoRen) rfl ⟨fun h => absurd (hb.symm.trans h) (by decide), fun _ _ => ⟨A, c, rfl, HX.out, .inl rfl, HB.out.1⟩, fun _ h => absurd (ht.symm.trans h) (by decide)⟩
        | true =>
          go_wp2_with (first | (refine rowLoad rfl 50 _ rfl _ rfl HU.out Try.underlying50 rfl infoUop ?_) | (go_at_call 26; refine (rwrites_any u _).mono ?_; rintro e w9 ⟨rfl, hb⟩; replace HS := keepA HS hb; replace HU := keepA HU hb; replace HZ := keepA HZ hb; replace HQ := keepA HQ hb; replace HR := keepA HR hb; replace HX := Lib.hid (HX.out.below hb); replace HB := keepB HB hb; (try clear fSeq fDst); have fSeq := (cellA HS 35).trans (nm_35 hm hd); have fDst := (cellA HU 20).trans (uA_20 u); clear hb) | (refine partLoad rfl 26 _ rfl gS 32 rfl (nm_free hm hd HS.out) Try.underlying26 rfl infoFr ?_) | (go_at_call 37; refine (rtake_keep A n c h N xs _ HX.out hnm).mono ?_; rintro e w11 ⟨A1, c1, rfl, hx1, hA, hb⟩; rw [HTH.out, HTN.out, HTP.out, ht]; have hlt : gR + 1 ≤ _ := (Array.getElem?_eq_some_iff.1 HR.out).1; have HA1 := Lib.hid (hA.imp_right fun hf => Fresh.mono hf hlt); have HF1 := Lib.hid (far HL.out HA1.out); clear hlt hA; replace HS := keepA HS hb; replace HU := keepA HU hb; replace HZ := keepA HZ hb; replace HQ := keepA HQ hb; replace HR := keepA HR hb; replace HX := Lib.hid (HX.out.below hb); replace HB := keepB HB hb; have HX1 := Lib.hid hx1; (try clear fSeq fDst); have fSeq := (cellA HS 35).trans (nm_35 hm hd); have fDst := (cellA HU 20).trans (uA_20 u); clear hb hx1) | (refine wlAlloc rfl 26 rfl _ zeroFr ?_; intro gF w12 hgF hgF' hz hb; have hRF : gR < gF := Nat.lt_of_lt_of_le (Array.getElem?_eq_some_iff.1 HR.out).1 hgF; have HFF := Lib.hid hz; have HG1 : Hid (∀ a, A1 = some a → 0 < n → a.block ≠ gF) := Lib.hid (fun a e1 e2 => Nat.ne_of_lt (Nat.lt_of_lt_of_le (HX1.out.lt a e1 e2) hgF)); replace HS := keepA HS hb; replace HU := keepA HU hb; replace HZ := keepA HZ hb; replace HQ := keepA HQ hb; replace HR := keepA HR hb; replace HX1 := Lib.hid (HX1.out.below hb); replace HB := keepB HB hb; replace HX := Lib.hid (HX.out.below hb); (try clear fSeq fDst); have fSeq := (cellA HS 35).trans (nm_35 hm hd); have fDst := (cellA HU 20).trans (uA_20 u); clear hz hb) | (refine rowStore rfl 26 _ _ rfl gF rfl #[.slice A1 n c1, .int .i64 H1, .int .i64 N1] rfl HFF.out infoFr rfl (by simp [Value.oneCell']) ?_; intro w13 hz ho; replace HS := keepAo HS (by omega) ho; replace HU := keepAo HU (by omega) ho; replace HZ := keepAo HZ (by omega) ho; replace HQ := keepAo HQ (by omega) ho; replace HR := keepAo HR (by omega) ho; replace HX1 := Lib.hid (HX1.out.only2 ho HG1.out); replace HX := Lib.hid (HX.out.only2 ho (fun a e1 e2 => by have := HL.out a e1 e2; omega)); replace HB := keepBo HB (by omega) ho; (try clear fSeq fDst); have fSeq := (cellA HS 35).trans (nm_35 hm hd); have fDst := (cellA HU 20).trans (uA_20 u); clear HFF; have HFF := Lib.hid hz; clear hz ho) | (refine partLoad rfl 23 _ rfl gS 0 rfl (nm_map HS.out) Try.underlying23 rfl (szM hm) ?_) | (go_at_call 36; refine (Rat.rget_any m u.dst _ hm).mono ?_; rintro e w16 ⟨rfl, hb⟩; replace HS := keepA HS hb; replace HU := keepA HU hb; replace HZ := keepA HZ hb; replace HQ := keepA HQ hb; replace HR := keepA HR hb; replace HFF := keepA HFF hb; replace HX1 := Lib.hid (HX1.out.below hb); replace HB := keepB HB hb; (try clear fSeq fDst); have fSeq := (cellA HS 35).trans (nm_35 hm hd); have fDst := (cellA HU 20).trans (uA_20 u); clear hb) | (refine cellStore rfl 3 _ _ rfl gR 27 rfl (.int .i64 p) rfl rfl rfl HR.out (by rw [rA_size]; omega) infoInt1 ?_; intro w17 hr ho; replace HS := keepAo HS (by omega) ho; replace HU := keepAo HU (by omega) ho; replace HZ := keepAo HZ (by omega) ho; replace HQ := keepAo HQ (by omega) ho; replace HFF := keepAo HFF (by omega) ho; replace HX1 := Lib.hid (HX1.out.only2 ho (fun a e1 e2 => by have := HF1.out a e1 e2; omega)); replace HB := keepBo HB (by omega) ho; (try clear fSeq fDst); have fSeq := (cellA HS 35).trans (nm_35 hm hd); have fDst := (cellA HU 20).trans (uA_20 u); clear HR; have HR : Hid (w17.heap[gR]? = some (.cells (rA (rU m u s p (-1))) 52 (0, 0))) := hr; clear hr ho) | (refine cellStore rfl 3 _ _ rfl gR 28 rfl (.int .i64 (Rat.getM m u.dst)) rfl rfl rfl HR.out (by rw [rA_size]; omega) infoInt1 ?_; intro w18 hr ho; replace HS := keepAo HS (by omega) ho; replace HU := keepAo HU (by omega) ho; replace HZ := keepAo HZ (by omega) ho; replace HQ := keepAo HQ (by omega) ho; replace HFF := keepAo HFF (by omega) ho; replace HX1 := Lib.hid (HX1.out.only2 ho (fun a e1 e2 => by have := HF1.out a e1 e2; omega)); replace HB := keepBo HB (by omega) ho; (try clear fSeq fDst); have fSeq := (cellA HS 35).trans (nm_35 hm hd); have fDst := (cellA HU 20).trans (uA_20 u); clear HR; have HR : Hid (w18.heap[gR]? = some (.cells (rA (rU m u s p (Rat.getM m u.dst))) 52 (0, 0))) := hr; clear hr ho) | (refine rowLoad rfl 26 _ rfl gF rfl HFF.out Try.underlying26 rfl infoFr ?_) | (refine storeRing rfl 26 _ _ rfl rfl (.slice A1 n c1) H1 N1 rfl HS.out hm hd rfl infoFr ?_; intro w19 hs ho; replace HU := keepAo HU (by omega) ho; replace HZ := keepAo HZ (by omega) ho; replace HQ := keepAo HQ (by omega) ho; replace HR := keepAo HR (by omega) ho; replace HX1 := Lib.hid (HX1.out.only2 ho (fun a e1 e2 => by have := HF1.out a e1 e2; omega)); replace HB := keepBo HB (by omega) ho; clear HS HFF; have HS := Lib.hid hs; (try clear fSeq fDst); have fSeq := (cellA HS 35).trans (nm_35 hm hd); have fDst := (cellA HU 20).trans (uA_20 u); clear hs ho) | (go_at_call 38; refine (Rat.rset_any m u.dst p _ hm).mono ?_; rintro e w20 ⟨rfl, hb⟩; rw [HM1.out]; replace HS := keepA HS hb; replace HU := keepA HU hb; replace HZ := keepA HZ hb; replace HQ := keepA HQ hb; replace HR := keepA HR hb; replace HX1 := Lib.hid (HX1.out.below hb); replace HB := keepB HB hb; (try clear fSeq fDst); have fSeq := (cellA HS 35).trans (nm_35 hm hd); have fDst := (cellA HU 20).trans (uA_20 u); clear hb) | (refine storeMap rfl 23 _ _ rfl rfl m' rfl HS.out hm hm' infoMap ?_; intro w21 hs ho; replace HU := keepAo HU (by omega) ho; replace HZ := keepAo HZ (by omega) ho; replace HQ := keepAo HQ (by omega) ho; replace HR := keepAo HR (by omega) ho; replace HX1 := Lib.hid (HX1.out.only2 ho (fun a e1 e2 => by have := HF1.out a e1 e2; omega)); replace HB := keepBo HB (by omega) ho; clear HS; have HS := Lib.hid hs; (try clear fSeq fDst); have fSeq := (cellA HS 35).trans (nm_35 hm' hd); have fDst := (cellA HU 20).trans (uA_20 u); clear hs ho) | (refine cellStore rfl 27 _ _ rfl gS 35 rfl (.int .u64 (sqS s)) rfl rfl rfl HS.out (by rw [nm_size hm' hd]; omega) infoSeq ?_; intro w10 hs ho; replace HU := keepAo HU (by omega) ho; replace HZ := keepAo HZ (by omega) ho; replace HQ := keepAo HQ (by omega) ho; replace HR := keepAo HR (by omega) ho; replace HX1 := Lib.hid (HX1.out.only2 ho (fun a e1 e2 => by have := HF1.out a e1 e2; omega)); replace HB := keepBo HB (by omega) ho; rw [nm_set35 hm' hd] at hs; clear HS; have HS := Lib.hid hs; clear hs ho fSeq))
          replace HS := keepA1 HS
          replace HZ := keepA1 HZ
          replace HQ := keepA1 HQ
          replace HR := keepA1 HR
          replace HX1 := Lib.hid (HX1.out.drew 1)
          replace HB := keepB1 HB
          refine rgStart (S := (fun w' => w'.heap[gS]? = some (.cells (nm m' d (.slice A1 n c1) H1 N1 (sqS s)) 29 (0, 0)) ∧ w'.heap[gR]? = some (.cells (rA (rU m u s p (Rat.getM m u.dst))) 52 (0, 0)))) (n := 5) #[false, false, false, false, false] (by kernel_rfl) rfl rfl ⟨HS.out, HR.out⟩ (fun hHeld => ?_)
          refine rgTake (i := 0) (N := some 64) (oi := { dst := some 64, op := Op.load 29 (Operand.tmp 2), type := 29, pos := "ref.go:35", after := #[], guard := none }) (v := _) #[true, false, false, false, false] rfl rfl (by kernel_rfl) (fun _ _ _ h => h) (by first | exact yieldsRow (by rfl) _ _ rfl _ rfl (fun _ h => h.1) Try.underlying29 rfl (szN hm' hd) | exact yieldsRow (by rfl) _ _ rfl _ rfl (fun _ h => h.2) Try.underlying52 rfl infoRen) hHeld ?_
          simp only [Act.put, List.setIfInBounds_toArray, List.set_cons_zero, List.set_cons_succ]
          refine rgTake (i := 1) (N := some 65) (oi := { dst := some 65, op := Op.load 52 (Operand.tmp 7), type := 52, pos := "ref.go:35", after := #[{ on := 2, ground := Ground.gcOnly Departure.lateStores }], guard := none }) (v := _) #[true, true, false, false, false] rfl rfl (by kernel_rfl) (fun _ _ _ h => h) (by first | exact yieldsRow (by rfl) _ _ rfl _ rfl (fun _ h => h.1) Try.underlying29 rfl (szN hm' hd) | exact yieldsRow (by rfl) _ _ rfl _ rfl (fun _ h => h.2) Try.underlying52 rfl infoRen) hHeld ?_
          simp only [Act.put, List.setIfInBounds_toArray, List.set_cons_zero, List.set_cons_succ]
          refine rgCall (i := 2) (N := none) (oi := { dst := none, op := Op.store 29 (Operand.tmp 4) (Operand.tmp 64), type := 0, pos := "ref.go:35", after := #[{ on := 0, ground := Ground.data }, { on := 0, ground := Ground.phase }, { on := 1, ground := Ground.textOnly Departure.lateStores }], guard := none }) #[true, true, true, false, false] rfl rfl (by kernel_rfl) (fun K hK => ?_)
          (refine rgStore (by rfl) 29 _ _ rfl gZ rfl (nm m' d (.slice A1 n c1) H1 N1 (sqS s)) rfl HZ.out (szN hm' hd) (szE rfl rfl hm' hd) (nm_one rfl) ?_; intro w22 hz ho; replace HS := keepAo HS (by omega) ho; replace HR := keepAo HR (by omega) ho; replace HQ := keepAo HQ (by omega) ho; replace HX1 := Lib.hid (HX1.out.only2 ho (fun a e1 e2 => by have := HF1.out a e1 e2; omega)); replace HB := keepBo HB (by omega) ho; clear HZ; have HZ := Lib.hid hz; clear hz ho)
          refine hK.out _ _ ⟨HS.out, HR.out⟩ (fun hHeld => ?_)
          clear hK K
          refine rgCall (i := 3) (N := none) (oi := { dst := none, op := Op.store 52 (Operand.tmp 5) (Operand.tmp 65), type := 0, pos := "ref.go:35", after := #[{ on := 1, ground := Ground.data }, { on := 2, ground := Ground.chain }, { on := 0, ground := Ground.phase }, { on := 1, ground := Ground.phase }, { on := 2, ground := Ground.phase }], guard := none }) #[true, true, true, true, false] rfl rfl (by kernel_rfl) (fun K hK => ?_)
          (refine rgStore (by rfl) 52 _ _ rfl gQ rfl (rA (rU m u s p (Rat.getM m u.dst))) rfl HQ.out infoRen rfl (rA_one _) ?_; intro w23 hz ho; replace HS := keepAo HS (by omega) ho; replace HR := keepAo HR (by omega) ho; replace HZ := keepAo HZ (by omega) ho; replace HX1 := Lib.hid (HX1.out.only2 ho (fun a e1 e2 => by have := HF1.out a e1 e2; omega)); replace HB := keepBo HB (by omega) ho; clear HQ; have HQ := Lib.hid hz; clear hz ho)
          refine hK.out _ _ ⟨HS.out, HR.out⟩ (fun hHeld => ?_)
          clear hK K
          refine rgTake (i := 4) (N := some 6) (oi := { dst := some 6, op := Op.assign (Operand.const (Value.bool true)), type := 4, pos := "ref.go:35", after := #[{ on := 3, ground := Ground.chain }, { on := 0, ground := Ground.phase }, { on := 1, ground := Ground.phase }, { on := 2, ground := Ground.phase }, { on := 3, ground := Ground.phase }], guard := none }) (v := ?_) #[true, true, true, true, true] rfl rfl (by kernel_rfl) (fun _ _ _ h => h) (Or.inl ⟨by rfl, ?_⟩) hHeld ?_
          rotate_left
          · intro w' hSw; (try dsimp only at hSw); skip; go_simp; try with_reducible rfl
          simp only [Act.put, List.setIfInBounds_toArray, List.set_cons_zero, List.set_cons_succ]
          refine rgDone (by kernel_rfl) ?_ _
          go_wp2
          exact bodyPost_ret (res2c rfl _ _ gZ 29 (nm m' d (.slice A1 n c1) H1 N1 (sqS s)) (0, 0) _ gQ 52 (rA (rU m u s p (Rat.getM m u.dst))) (0, 0) _ rfl HZ.out Try.underlying29 rfl (szN hm' hd) rfl HQ.out Try.underlying52 rfl infoRen) rfl ⟨fun h => absurd (hb.symm.trans h) (by decide), fun _ h => absurd (ht.symm.trans h) (by decide), fun _ _ => ⟨A1, c1, rfl, HX1.out, HA1.out.imp_right fun hf => Fresh.mono hf (by omega), HB.out.1⟩⟩

/-- Names as numbers. -/
structure NmV where
  m : List Int
  d : List Int
  n : Nat
  xs : List Int
  h : Int
  N : Int
  s : Int
def nmA (v : NmV) (A : Option Addr) (c : Nat) : Array Value := nm v.m v.d (.slice A v.n c) v.h v.N v.s
structure NmV.Ok (v : NmV) : Prop where
  m : v.m.length = 16
  d : v.d.length = 16
  n : v.n ≤ 9223372036854775807
/-- What an act leaves of names. -/
def NmP (w w' : World) (A : Option Addr) (v : NmV) (e : Ending) : Prop := ∃ A' c, e = .returned (.agg (nmA v A' c)) ∧ RdA .i64 w' A' v.n v.xs ∧ (A' = A ∨ Fresh w.heap.size A') ∧ Below w.heap.size w w'
def onV (v : NmV) (u : UopV) : NmV := if Rat.regB u.dst = true then (if takeB v.n v.h v.N = true then ⟨Rat.setM v.m u.dst (tkP v.xs v.n v.h v.N), v.d, v.n, v.xs, tkH v.n v.h v.N, tkN v.n v.h v.N, sqS v.s⟩ else v) else ⟨v.m, v.d, v.n, v.xs, v.h, v.N, sqS v.s⟩
def onR (v : NmV) (u : UopV) : RenV := if Rat.regB u.dst = true then (if takeB v.n v.h v.N = true then rU v.m u v.s (tkP v.xs v.n v.h v.N) (Rat.getM v.m u.dst) else rZ) else rU v.m u v.s (-1) (-1)
def onB (v : NmV) (u : UopV) : Bool := !Rat.regB u.dst || takeB v.n v.h v.N
def OneV (w w' : World) (A : Option Addr) (v : NmV) (r : RenV) (b : Bool) (e : Ending) : Prop := ∃ A' c, e = .returned (.tuple #[.agg (nmA v A' c), .agg (rA r), .bool b]) ∧ RdA .i64 w' A' v.n v.xs ∧ (A' = A ∨ Fresh w.heap.size A') ∧ Below w.heap.size w w'
theorem onV_n (v : NmV) (u : UopV) : (onV v u).n = v.n := by unfold onV; (repeat' split) <;> rfl
theorem onV_xs (v : NmV) (u : UopV) : (onV v u).xs = v.xs := by unfold onV; (repeat' split) <;> rfl
theorem onV_d (v : NmV) (u : UopV) : (onV v u).d = v.d := by unfold onV; (repeat' split) <;> rfl
theorem onV_ok {v : NmV} (hv : v.Ok) (u : UopV) : (onV v u).Ok := by
  refine ⟨?_, by rw [onV_d]; exact hv.d, by rw [onV_n]; exact hv.n⟩
  unfold onV
  split
  · split
    · show (Rat.setM _ _ _).length = 16
      rw [setM_len]; exact hv.m
    · exact hv.m
  · exact hv.m
def unV (v : NmV) (r : RenV) : NmV := ⟨unM v.m r, v.d, v.n, unX v.xs v.n v.h v.N r, unH v.n v.h v.N r, unN v.n v.h v.N r, v.s⟩
def rtV (v : NmV) (r : RenV) : NmV := ⟨v.m, rtD v.d r, v.n, rtX v.xs v.n v.h v.N r, v.h, rtN v.n v.h v.N r, v.s⟩
theorem unV_ok {v : NmV} (hv : v.Ok) (r : RenV) : (unV v r).Ok := by
  refine ⟨?_, hv.d, hv.n⟩
  show (unM v.m r).length = 16
  unfold unM
  split
  · rw [setM_len]; exact hv.m
  · exact hv.m
theorem rtV_ok {v : NmV} (hv : v.Ok) (r : RenV) : (rtV v r).Ok := by
  refine ⟨hv.m, ?_, hv.n⟩
  show (rtD v.d r).length = 16
  unfold rtD
  split
  · rw [setM_len]; exact hv.d
  · exact hv.d
theorem one_any (v : NmV) (A : Option Addr) (c : Nat) (u : UopV) (w : World) (hx : RdA .i64 w A v.n v.xs) (hv : v.Ok) : Calls Try.prog 16 #[.agg (nmA v A c), .agg (uA u)] w fun e w' => OneV w w' A (onV v u) (onR v u) (onB v u) e := by
  refine (one_cases A v.n c v.m v.d v.h v.N v.s v.xs u w hx hv.n hv.m hv.d).mono ?_
  rintro e w' ⟨p1, p2, p3⟩
  unfold onV onR onB
  cases hb : Rat.regB u.dst with
  | false =>
    simp only [Bool.false_eq_true, if_false, Bool.not_false, Bool.true_or]
    exact p1 hb
  | true =>
    cases ht : takeB v.n v.h v.N with
    | false =>
      simp only [Bool.false_eq_true, if_false, if_true, Bool.not_true, Bool.false_or]
      exact p2 hb ht
    | true =>
      simp only [if_true, Bool.not_true, Bool.false_or]
      exact p3 hb ht
theorem undo_v (v : NmV) (A : Option Addr) (c : Nat) (r : RenV) (w : World) (hx : RdA .i64 w A v.n v.xs) (hv : v.Ok) : Calls Try.prog 18 #[.agg (nmA v A c), .agg (rA r)] w fun e w' => NmP w w' A (unV v r) e :=
  undo_any A v.n c v.m v.d v.h v.N v.s v.xs r w hx hv.n hv.m hv.d
theorem retire_v (v : NmV) (A : Option Addr) (c : Nat) (r : RenV) (w : World) (hx : RdA .i64 w A v.n v.xs) (hv : v.Ok) : Calls Try.prog 20 #[.agg (nmA v A c), .agg (rA r)] w fun e w' => NmP w w' A (rtV v r) e :=
  retire_any A v.n c v.m v.d v.h v.N v.s v.xs r w hx hv.n hv.m hv.d
theorem rone_any (v : NmV) (A : Option Addr) (c : Nat) (u : UopV) (w : World) (hx : RdA .i64 w A v.n v.xs) (hv : v.Ok) : Calls Try.prog 17 #[.agg (nmA v A c), .agg (uA u)] w fun e w' => OneV w w' A (onV v u) (onR v u) (onB v u) e := by
  refine (rone_cases A v.n c v.m v.d v.h v.N v.s v.xs u w hx hv.n hv.m hv.d).mono ?_
  rintro e w' ⟨p1, p2, p3⟩
  unfold onV onR onB
  cases hb : Rat.regB u.dst with
  | false =>
    simp only [Bool.false_eq_true, if_false, Bool.not_false, Bool.true_or]
    exact p1 hb
  | true =>
    cases ht : takeB v.n v.h v.N with
    | false =>
      simp only [Bool.false_eq_true, if_false, if_true, Bool.not_true, Bool.false_or]
      exact p2 hb ht
    | true =>
      simp only [if_true, Bool.not_true, Bool.false_or]
      exact p3 hb ht
theorem rundo_v (v : NmV) (A : Option Addr) (c : Nat) (r : RenV) (w : World) (hx : RdA .i64 w A v.n v.xs) (hv : v.Ok) : Calls Try.prog 19 #[.agg (nmA v A c), .agg (rA r)] w fun e w' => NmP w w' A (unV v r) e :=
  rundo_any A v.n c v.m v.d v.h v.N v.s v.xs r w hx hv.n hv.m hv.d
theorem rretire_v (v : NmV) (A : Option Addr) (c : Nat) (r : RenV) (w : World) (hx : RdA .i64 w A v.n v.xs) (hv : v.Ok) : Calls Try.prog 21 #[.agg (nmA v A c), .agg (rA r)] w fun e w' => NmP w w' A (rtV v r) e :=
  rretire_any A v.n c v.m v.d v.h v.N v.s v.xs r w hx hv.n hv.m hv.d
end Go.Proofs.Ytpgighhnhidpcaa.My
