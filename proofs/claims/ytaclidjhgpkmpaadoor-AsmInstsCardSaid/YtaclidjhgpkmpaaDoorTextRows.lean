/- Words: slices of structs that are read, or made by appending; parts of rows loaded and stored; structs boxed. -/
import Derived.Test.YtaclidjhgpkmpaaDoorByteWords
import Derived.Test.YtaclidjhgpkmpaaDoorAppWords
import Derived.Test.YtaclidjhgpkmpaaDoorRowWords
import Derived.Test.YtaclidjhgpkmpaaDoorSlWords
import Derived.Maps.AppendAt
import Derived.ArgAppend
import Derived.OwnWalk
set_option linter.unusedVariables false
set_option linter.unusedSimpArgs false
namespace Go.Proofs.YtaclidjhgpkmpaaDoor.My
open Go.RowKit
theorem row_mid {w : World} {g : Nat} {pre mid post : List Value} {t : TypeId} {fr : Nat × Nat} (hg : w.heap[g]? = some (.cells (pre ++ (mid ++ post)).toArray t fr)) {o : Nat} (ho : pre.length = o) : w.rangeAt g o mid := fun j v hv => by
  have hj : j < mid.length := (List.getElem?_eq_some_iff.1 hv).1
  rw [cell_of_row w g (o + j) _ _ _ hg, List.getElem?_toArray, List.getElem?_append_right (by omega), List.getElem?_append_left (by omega), ← hv]
  congr 1
  omega
theorem setCells_mid {t : TypeId} (g : Nat) : ∀ (vs pre old post : List Value) (w : World), w.heap[g]? = some (.cells (pre ++ (old ++ post)).toArray t (0, 0)) → old.length = vs.length →
    (w.setCells g pre.length vs).heap[g]? = some (.cells (pre ++ (vs ++ post)).toArray t (0, 0)) ∧ Only g w (w.setCells g pre.length vs)
  | [], pre, old, post, w, hg, hl => by
    have : old = [] := List.eq_nil_of_length_eq_zero hl
    subst this
    exact ⟨hg, ⟨rfl, rfl, rfl, rfl, fun _ _ => rfl⟩⟩
  | v :: vs, pre, old, post, w, hg, hl => by
    obtain ⟨o, old, rfl⟩ : ∃ o r, old = o :: r := by cases old with | nil => simp at hl | cons o r => exact ⟨o, r, rfl⟩
    have h1 : (w.setCell ⟨g, pre.length, none⟩ v).heap[g]? = some (.cells ((pre ++ [v]) ++ (old ++ post)).toArray t (0, 0)) := by
      rw [setCell_eq_setRow w g pre.length _ t _ v hg, setRow_heap _ _ _ _ _ _ hg, List.setIfInBounds_toArray, List.set_append_right _ _ (Nat.le_refl _)]
      simp
    have ho : Only g w (w.setCell ⟨g, pre.length, none⟩ v) := by
      rw [setCell_eq_setRow w g pre.length _ t _ v hg]
      exact only_setRow _ _ _
    obtain ⟨h2, h3⟩ := setCells_mid g vs (pre ++ [v]) old post _ h1 (by simpa using hl)
    rw [World.setCells]
    simp only [List.length_append, List.length_cons, List.length_nil, Nat.zero_add] at h2 h3
    refine ⟨by simpa using h2, ⟨h3.os.trans ho.os, h3.tape.trans ho.tape, h3.output.trans ho.output, h3.size.trans ho.size, fun k hk => (h3.block k hk).trans (ho.block k hk)⟩⟩
theorem there_mid {w : World} {g : Nat} {pre mid post : List Value} {t : TypeId} (hg : w.heap[g]? = some (.cells (pre ++ (mid ++ post)).toArray t (0, 0))) {o : Nat} (ho : pre.length = o) : w.there g o mid.length := fun j hj => by
  refine ⟨?_, frozen_of_row w g (o + j) _ t hg⟩
  rw [row_mid hg ho j mid[j] (List.getElem?_eq_getElem hj)]
  rfl
section
variable {P : Program} {ops : Array Oper} {Q : Exit → Act → World → Prop} {rest : List Oper} {o : Oper} {a : Act} {w : World}
theorem partLoad (hw : Region.wanted o (yielded ops a.tmps) = true) (ty : TypeId) (x : Operand) (ho : o.op = .load ty x) (g off : Nat) (hx : a.eval x = .pointer (some ⟨g, off, none⟩))
    {cs : Array Value} {d : TypeDesc} (hr : w.rangeAt g off cs.toList) (hu : P.underlying ty = some d) (hd : d.isRow = true) (hi : (P.info? ty).map (·.size) = some cs.size)
    (h : wpList P ops Q rest (a.put o.dst (.agg cs)) w) : wpList P ops Q (o :: rest) a w :=
  wpList_step fun K hK => by
    rw [if_pos hw]
    exact wp_load_mid ty x ho g off hx cs.toList d hr hu hd (by simpa using hi) (hK _ _ (by simpa using h))
theorem partStore (hw : Region.wanted o (yielded ops a.tmps) = true) (ty : TypeId) (x y : Operand) (ho : o.op = .store ty x y) (g off : Nat) (hx : a.eval x = .pointer (some ⟨g, off, none⟩))
    (cs : Array Value) (hy : a.eval y = .agg cs) {pre old post : List Value} {t : TypeId} (hg : w.heap[g]? = some (.cells (pre ++ (old ++ post)).toArray t (0, 0))) (hp : pre.length = off) (hl : old.length = cs.size) (hi : (P.info? ty).map (·.size) = some cs.size) (h1 : cs.all (·.oneCell') = true)
    (h : ∀ w2 : World, w2.heap[g]? = some (.cells (pre ++ (cs.toList ++ post)).toArray t (0, 0)) → Only g w w2 → wpList P ops Q rest (a.put o.dst undef) w2) : wpList P ops Q (o :: rest) a w :=
  wpList_step fun K hK => by
    rw [if_pos hw]
    obtain ⟨h2, h3⟩ := setCells_mid g cs.toList pre old post w hg (by simpa using hl)
    subst hp
    exact wp_store_mid ty x y ho g pre.length cs hx hy (by have := there_mid hg rfl; rwa [hl] at this) hi h1 (hK _ _ (h _ h2 h3))
theorem wlBox (hw : Region.wanted o (yielded ops a.tmps) = true) (ty : TypeId) (x : Operand) (ho : o.op = .box ty x) (cs : Array Value) (hx : a.eval x = .agg cs)
    (h : ∀ (g : Nat) (w2 : World), w.heap.size ≤ g → g < w2.heap.size → w2.heap[g]? = some (.cells cs ty (0, 0)) → Below w.heap.size w w2 → wpList P ops Q rest (a.put o.dst (.pointer (some ⟨g, 0, none⟩))) w2) : wpList P ops Q (o :: rest) a w :=
  wpList_step fun K hK => by
    rw [if_pos hw]
    have hrun : (execOp a.eval o).run P w = .ok (.value (.pointer (some ⟨w.heap.size, 0, none⟩))) (w.alloc (.cells cs ty)) := by
      unfold execOp
      rw [ho]
      simp only [hx]
      rfl
    unfold Oper.wp
    rw [hrun]
    exact hK _ _ (h _ _ (Nat.le_refl _) (by simp) (heap_alloc_new _ _) ((Below.refl _ _).alloc (Nat.le_refl _) _))
theorem wlAlloc (hw : Region.wanted o (yielded ops a.tmps) = true) (ty : TypeId) (ho : o.op = .alloc ty) (cs : Array Value) (hz : ∀ w, (zeroValue ty).run P w = .ok (.agg cs) w)
    (h : ∀ (g : Nat) (w2 : World), w.heap.size ≤ g → g < w2.heap.size → w2.heap[g]? = some (.cells cs ty (0, 0)) → Below w.heap.size w w2 → wpList P ops Q rest (a.put o.dst (.pointer (some ⟨g, 0, none⟩))) w2) : wpList P ops Q (o :: rest) a w :=
  wpList_step fun K hK => by
    rw [if_pos hw]
    have hrun : (execOp a.eval o).run P w = .ok (.value (.pointer (some ⟨w.heap.size, 0, none⟩))) (w.alloc (.cells cs ty)) := by
      unfold execOp
      rw [ho]
      simp only [Instr.alloc, Sem.run_bind, hz, Result.andThen_ok]
      rfl
    unfold Oper.wp
    rw [hrun]
    exact hK _ _ (h _ _ (Nat.le_refl _) (by simp) (heap_alloc_new _ _) ((Below.refl _ _).alloc (Nat.le_refl _) _))
theorem opVal (hw : Region.wanted o (yielded ops a.tmps) = true) (v : Value) (hrun : (execOp a.eval o).run P w = .ok (.value v) w) (h : wpList P ops Q rest (a.put o.dst v) w) : wpList P ops Q (o :: rest) a w :=
  wpList_step fun K hK => by
    rw [if_pos hw]
    unfold Oper.wp
    rw [hrun]
    exact hK _ _ h
end
theorem rgCell {P : Program} {ops : Array Oper} {o : Oper} {a : Act} {w : World} {Q : Exit → Act → World → Prop} {K : Act → World → Prop} {E : Prop} (hw : Region.wanted o (yielded ops a.tmps) = true) (ty : TypeId) (x y : Operand) (ho : o.op = .store ty x y) (g j : Nat) (hx : a.eval x = .pointer (some ⟨g, j, none⟩))
    (v : Value) (hy : a.eval y = v) (hv : v.cells = #[v]) (hv1 : v.oneCell' = true) {t : TypeId} {cur : Array Value} (hg : w.heap[g]? = some (.cells cur t (0, 0))) (hj : j < cur.size) (hi : (P.info? ty).map (·.size) = some 1)
    (h : ∀ w2 : World, w2.heap[g]? = some (.cells (cur.setIfInBounds j v) t (0, 0)) → Only g w w2 → K (a.put o.dst undef) w2) : if Region.wanted o (yielded ops a.tmps) = true then Oper.wp P o a w K Q else E := by
  rw [if_pos hw]
  unfold Oper.wp execOp
  simp only [ho, hx, hy, Instr.storeAt, Instr.sureAddr, Sem.run_bind, Sem.run_pure, Result.andThen_ok, run_storeVar_one w g j ty v hv hv1 hg hj hi]
  exact h _ (setRow_heap _ _ _ _ _ _ hg) (only_setRow _ _ _)
theorem yieldsMid {P : Program} {ops : Array Oper} {S : World → Prop} {oi : Oper} {a : Act} (hw : Region.wanted oi (yielded ops a.tmps) = true) (ty : TypeId) (x : Operand) (ho : oi.op = .load ty x) (b off : Nat) (hx : a.eval x = .pointer (some ⟨b, off, none⟩)) (cs : Array Value) (hS : ∀ w, S w → w.rangeAt b off cs.toList)
    {d : TypeDesc} (hu : P.underlying ty = some d) (hd : d.isRow = true) (hi : (P.info? ty).map (·.size) = some cs.size) : YieldsIf P ops S oi (.agg cs) a := by
  have := yieldsIf_load_mid (ops := ops) hw ty x ho b off hx cs.toList d hS hu hd (by simpa using hi)
  simpa using this
theorem wlBuild {P : Program} {ops : Array Oper} {Q : Exit → Act → World → Prop} {rest : List Oper} {o : Oper} {a : Act} {w : World} (hw : Region.wanted o (yielded ops a.tmps) = true) (ty : TypeId) (parts : Array (Nat × Operand)) (ho : o.op = .build ty parts) (v : Value) (hrun : (execOp a.eval o).run P w = .ok (.value v) w) (h : wpList P ops Q rest (a.put o.dst v) w) : wpList P ops Q (o :: rest) a w :=
  opVal hw v hrun h
theorem wlIndex {P : Program} {ops : Array Oper} {Q : Exit → Act → World → Prop} {rest : List Oper} {o : Oper} {a : Act} {w : World} (hw : Region.wanted o (yielded ops a.tmps) = true) (ty : TypeId) (x i : Operand) (ho : o.op = .index ty x i) (v : Value) (hrun : (execOp a.eval o).run P w = .ok (.value v) w) (h : wpList P ops Q rest (a.put o.dst v) w) : wpList P ops Q (o :: rest) a w :=
  opVal hw v hrun h
theorem res2c {P : Program} {fn : Func} {p q v : Tmp} {ty ty2 : TypeId} (h : fn.results = #[.cell p ty, .cell q ty2, .tmp v]) (tmps : Array Value) (w : World) (g : Nat) (t : TypeId) (cs : Array Value) (fr : Nat × Nat) (d : TypeDesc) (g2 : Nat) (t2 : TypeId) (cs2 : Array Value) (fr2 : Nat × Nat) (d2 : TypeDesc)
    (hp : tmps.getD p undef = .pointer (some ⟨g, 0, none⟩)) (hg : w.heap[g]? = some (.cells cs t fr)) (hu : P.underlying ty = some d) (hd : d.isRow = true) (hi : (P.info? ty).map (·.size) = some cs.size)
    (hp2 : tmps.getD q undef = .pointer (some ⟨g2, 0, none⟩)) (hg2 : w.heap[g2]? = some (.cells cs2 t2 fr2)) (hu2 : P.underlying ty2 = some d2) (hd2 : d2.isRow = true) (hi2 : (P.info? ty2).map (·.size) = some cs2.size) :
    (results fn tmps).run P w = .ok (.tuple #[.agg cs, .agg cs2, tmps.getD v undef]) w := by
  have hp' : tmps[p]?.getD undef = .pointer (some ⟨g, 0, none⟩) := by simpa using hp
  have hp2' : tmps[q]?.getD undef = .pointer (some ⟨g2, 0, none⟩) := by simpa using hp2
  have hl := run_loadVar_row (P := P) w g t ty cs fr d hg hu (by cases d <;> first | rfl | exact hd) hi
  have hl2 := run_loadVar_row (P := P) w g2 t2 ty2 cs2 fr2 d2 hg2 hu2 (by cases d2 <;> first | rfl | exact hd2) hi2
  simp [results, h, hp', hp2', asAddr, hl, hl2]
theorem wlField {P : Program} {ops : Array Oper} {Q : Exit → Act → World → Prop} {rest : List Oper} {o : Oper} {a : Act} {w : World} (hw : Region.wanted o (yielded ops a.tmps) = true) (ty : TypeId) (x : Operand) (i : Nat) (ho : o.op = .field ty x i) (v : Value) (hrun : (Instr.field ty (a.eval x) i).run P w = .ok v w) (h : wpList P ops Q rest (a.put o.dst v) w) : wpList P ops Q (o :: rest) a w :=
  opVal hw v (by unfold execOp; rw [ho]; simp only [Sem.run_bind, hrun, Result.andThen_ok]; rfl) h
theorem range_below {w w' : World} {b o : Nat} {cs : List Value} (h : w.rangeAt b o cs) (hb : Below w.heap.size w w') : w'.rangeAt b o cs := fun j v hv => (hb.cell (World.block_lt_of_cell? w _ (h j v hv))).trans (h j v hv)
theorem range_block {w w' : World} {b o : Nat} {cs : List Value} (h : w.rangeAt b o cs) (hb : w'.heap[b]? = w.heap[b]?) : w'.rangeAt b o cs := fun j v hv => by
  have h1 := h j v hv
  unfold World.cell? at h1 ⊢
  simp only [hb]
  exact h1
/-- A slice of rows that is read: n rows of k cells. -/
def RwA (w : World) (A : Option Addr) (k n : Nat) (rows : List (Array Value)) : Prop :=
  rows.length = n ∧ (∀ r ∈ rows, r.size = k) ∧ (0 < n → ∃ b off, A = some ⟨b, off, none⟩ ∧ b < w.heap.size ∧ ∀ j r, rows[j]? = some r → w.rangeAt b (off + j * k) r.toList)
theorem RwA.below {w w' : World} {A : Option Addr} {k n : Nat} {rows : List (Array Value)} (h : RwA w A k n rows) (hb : Below w.heap.size w w') : RwA w' A k n rows :=
  ⟨h.1, h.2.1, fun hn => by
    obtain ⟨b, off, hA, hlt, hc⟩ := h.2.2 hn
    exact ⟨b, off, hA, Nat.lt_of_lt_of_le hlt hb.size, fun j r hr => range_below (hc j r hr) hb⟩⟩
theorem RwA.only2 {w w' : World} {A : Option Addr} {k n g : Nat} {rows : List (Array Value)} (h : RwA w A k n rows) (ho : Only g w w') (hg : ∀ a, A = some a → 0 < n → a.block ≠ g) : RwA w' A k n rows :=
  ⟨h.1, h.2.1, fun hn => by
    obtain ⟨b, off, hA, hlt, hc⟩ := h.2.2 hn
    exact ⟨b, off, hA, by rw [ho.size]; exact hlt, fun j r hr => range_block (hc j r hr) (ho.block b (hg _ hA hn))⟩⟩
theorem RwA.lt {w : World} {A : Option Addr} {k n : Nat} {rows : List (Array Value)} (h : RwA w A k n rows) : ∀ a, A = some a → 0 < n → a.block < w.heap.size := fun a ha hn => by
  obtain ⟨b, off, hA, hlt, hc⟩ := h.2.2 hn
  rw [hA] at ha
  injection ha with ha
  subst ha
  exact hlt
theorem RwA.drew {w : World} {A : Option Addr} {k n : Nat} {rows : List (Array Value)} (h : RwA w A k n rows) (m : Nat) : RwA (w.drewN m) A k n rows := h
theorem flat_get {k : Nat} : ∀ {rows : List (Array Value)}, (∀ r ∈ rows, r.size = k) → ∀ {j : Nat} {r : Array Value}, rows[j]? = some r → ∀ {i : Nat} {v : Value}, r.toList[i]? = some v → (rows.flatMap Array.toList)[j * k + i]? = some v
  | [], _, j, r, hr, _, _, _ => by simp at hr
  | a :: l, h, 0, r, hr, i, v, hv => by
    obtain rfl : a = r := by simpa using hr
    have hi : i < a.toList.length := (List.getElem?_eq_some_iff.1 hv).1
    rw [List.flatMap_cons, Nat.zero_mul, Nat.zero_add, List.getElem?_append_left hi]
    exact hv
  | a :: l, h, j + 1, r, hr, i, v, hv => by
    have ha : a.toList.length = k := by simpa using h a (by simp)
    have hr' : l[j]? = some r := by simpa using hr
    have := flat_get (fun r hr => h r (by simp [hr])) hr' hv
    rw [List.flatMap_cons, List.getElem?_append_right (by rw [ha, Nat.add_mul]; omega), ha]
    rw [show (j + 1) * k + i - k = j * k + i by rw [Nat.add_mul]; omega]
    exact this
theorem flat_len {k : Nat} : ∀ {rows : List (Array Value)}, (∀ r ∈ rows, r.size = k) → (rows.flatMap Array.toList).length = rows.length * k
  | [], _ => by simp
  | a :: l, h => by
    have ha : a.toList.length = k := by simpa using h a (by simp)
    rw [List.flatMap_cons, List.length_append, ha, flat_len (fun r hr => h r (by simp [hr])), List.length_cons, Nat.add_mul]
    omega
theorem addr_add (b off m : Nat) : (⟨b, off, none⟩ : Addr).add m = ⟨b, off + m, none⟩ := by unfold Addr.add; split <;> simp_all
/-- What a call has made by appending is read. -/
theorem RwA.of_own {w : World} {B k n : Nat} {e : TypeId} {v : Value} {rows : List (Array Value)} (hk : 0 < k) (hr : ∀ r ∈ rows, r.size = k) (h : w.ownsRow B e k v n (rows.flatMap Array.toList)) : ∃ A c, v = .slice A n c ∧ RwA w A k n rows ∧ Fresh B A ∧ rows.length = n := by
  have hl : rows.length = n := by
    have h1 := h.1
    rw [flat_len hr] at h1
    exact Nat.eq_of_mul_eq_mul_right hk h1
  rcases h.2 with ⟨rfl, rfl⟩ | ⟨g, cap, cur, rfl, hB, hcur, _⟩
  · exact ⟨none, 0, rfl, ⟨hl, hr, fun h => absurd h (Nat.lt_irrefl 0)⟩, (fun a ha => by cases ha), hl⟩
  · refine ⟨_, cap, rfl, ⟨hl, hr, fun hn => ⟨g, 0, rfl, (Array.getElem?_eq_some_iff.1 hcur).1, fun j r hj i v hv => ?_⟩⟩, (fun a ha => by injection ha with ha; subst ha; exact hB), hl⟩
    have hc := h.cells (g := g) rfl (j * k + i) v (flat_get hr hj hv)
    rw [addr_add] at hc
    rwa [show 0 + j * k + i = 0 + (j * k + i) by omega]
/-- What append leaves alone. -/
theorem keepAw {w w' : World} {g : Nat} {o : Obj} {r : Option Nat} (h : Hid (w.heap[g]? = some o)) (hg : w.grownBy w' r) (hne : some g ≠ r) : Hid (w'.heap[g]? = some o) := (hg.block g (Array.getElem?_eq_some_iff.1 h.out).1 hne).trans h.out
theorem keepBw {B : Nat} {w0 w w' : World} {r : Option Nat} (h : Hid (Below B w0 w ∧ B ≤ w.heap.size)) (hg : w.grownBy w' r) (hr : ∀ k, r = some k → B ≤ k) : Hid (Below B w0 w' ∧ B ≤ w'.heap.size) :=
  ⟨⟨hg.os.trans h.out.1.os, hg.tape.trans h.out.1.tape, hg.output.trans h.out.1.output, Nat.le_trans h.out.1.size hg.size, fun i hi => (hg.block i (Nat.lt_of_lt_of_le hi h.out.2) (fun e => by have := hr i e.symm; omega)).trans (h.out.1.block i hi)⟩, Nat.le_trans h.out.2 hg.size⟩
theorem RdA.grown {k : IntKind} {w w' : World} {A : Option Addr} {n : Nat} {xs : List Int} {r : Option Nat} (h : RdA k w A n xs) (hg : w.grownBy w' r) (hne : ∀ a, A = some a → 0 < n → some a.block ≠ r) : RdA k w' A n xs :=
  ⟨h.1, fun hn => by
    obtain ⟨b, off, hA, hc⟩ := h.2 hn
    exact ⟨b, off, hA, fun j hj => hg.cell (hc j hj) (show some b ≠ r from hne _ hA hn)⟩⟩
theorem RwA.grown {w w' : World} {A : Option Addr} {k n : Nat} {rows : List (Array Value)} {r : Option Nat} (h : RwA w A k n rows) (hg : w.grownBy w' r) (hne : ∀ a, A = some a → 0 < n → some a.block ≠ r) : RwA w' A k n rows :=
  ⟨h.1, h.2.1, fun hn => by
    obtain ⟨b, off, hA, hlt, hc⟩ := h.2.2 hn
    exact ⟨b, off, hA, Nat.lt_of_lt_of_le hlt hg.size, fun j r hr => range_block (hc j r hr) (hg.block b hlt (hne _ hA hn))⟩⟩
theorem ownk_below {w w' : World} {B e k n : Nat} {v : Value} {xs : List Value} (h : w.ownsRow B e k v n xs) (hb : Below w.heap.size w w') : w'.ownsRow B e k v n xs := by
  refine ⟨h.1, ?_⟩
  rcases h.2 with h | ⟨g, cap, cur, h1, h2, h3, h4⟩
  · exact .inl h
  · exact .inr ⟨g, cap, cur, h1, h2, (hb.block g (Array.getElem?_eq_some_iff.1 h3).1).trans h3, h4⟩
theorem ownk_only {w w' : World} {B e k g n : Nat} {v : Value} {xs : List Value} (h : w.ownsRow B e k v n xs) (hg : ∀ j, v.ownBlock = some j → j ≠ g) (ho : Only g w w') : w'.ownsRow B e k v n xs := by
  refine ⟨h.1, ?_⟩
  rcases h.2 with h | ⟨j, cap, cur, rfl, h2, h3, h4⟩
  · exact .inl h
  · exact .inr ⟨j, cap, cur, rfl, h2, (ho.block j (hg j rfl)).trans h3, h4⟩
theorem ownk_weak {w : World} {B B' e k n : Nat} {v : Value} {xs : List Value} (h : w.ownsRow B e k v n xs) (hB : B' ≤ B) : w.ownsRow B' e k v n xs := by
  refine ⟨h.1, ?_⟩
  rcases h.2 with h | ⟨g, cap, cur, h1, h2, h3⟩
  · exact .inl h
  · exact .inr ⟨g, cap, cur, h1, by omega, h3⟩
theorem ownk_drew {w : World} {B e k n : Nat} {v : Value} {xs : List Value} (h : w.ownsRow B e k v n xs) (m : Nat) : (w.drewN m).ownsRow B e k v n xs := h
/-- The address of an element. -/
theorem run_idx {P : Program} (w : World) (t e : TypeId) (k : Nat) (ht : P.underlying t = some (.slice e)) (hs : ∀ w, (sizeOf e).run P w = .ok k w) (b off n c i : Nat) (hi : i < n) : (Instr.indexAt t (.slice (some ⟨b, off, none⟩) n c) (.int .i64 i)).run P w = .ok (.pointer (some ⟨b, off + i * k, none⟩)) w := by
  have h0 : (0 : Int) ≤ (i : Int) ∧ (i : Int) < (n : Int) := ⟨by omega, by omega⟩
  unfold Instr.indexAt
  simp [asIntOf, run_underlying ht, hs, h0, addr_add]
  omega
section
variable {P : Program} {ops : Array Oper} {o : Oper} {a : Act} {w : World} {Q : Exit → Act → World → Prop} {rest : List Oper}
theorem wlIdx (hw : Region.wanted o (yielded ops a.tmps) = true) (t : TypeId) (x y : Operand) (ho : o.op = .indexAddr t x y) (e : TypeId) (k : Nat) (ht : P.underlying t = some (.slice e)) (hs : ∀ w, (sizeOf e).run P w = .ok k w) (b off n c i : Nat) (hx : a.eval x = .slice (some ⟨b, off, none⟩) n c) (hy : a.eval y = .int .i64 i) (hi : i < n)
    (h : wpList P ops Q rest (a.put o.dst (.pointer (some ⟨b, off + i * k, none⟩))) w) : wpList P ops Q (o :: rest) a w :=
  opVal hw _ (by
    unfold execOp
    rw [ho]
    simp only [hx, hy, Sem.run_bind, run_idx w t e k ht hs b off n c i hi, Result.andThen_ok]
    rfl) h
theorem yieldsIdx {S : World → Prop} {oi : Oper} {a : Act} (hw : Region.wanted oi (yielded ops a.tmps) = true) (t : TypeId) (x y : Operand) (ho : oi.op = .indexAddr t x y) (e : TypeId) (k : Nat) (ht : P.underlying t = some (.slice e)) (hs : ∀ w, (sizeOf e).run P w = .ok k w) (b off n c i : Nat) (hx : a.eval x = .slice (some ⟨b, off, none⟩) n c) (hy : a.eval y = .int .i64 i) (hi : i < n) : YieldsIf P ops S oi (.pointer (some ⟨b, off + i * k, none⟩)) a :=
  .inl ⟨hw, fun w _ => by
    unfold execOp
    rw [ho]
    simp only [hx, hy, Sem.run_bind, run_idx w t e k ht hs b off n c i hi, Result.andThen_ok]
    rfl⟩
/-- One element laid in a block of its own. -/
theorem wlLit (hw : Region.wanted o (yielded ops a.tmps) = true) (t : TypeId) (m : Nat) (parts : Array (Nat × Operand)) (ho : o.op = .buildSlice t m parts) (cs : Array Value) (e : TypeId)
    (hrun : ∀ w, (execOp a.eval o).run P w = .ok (.value (.slice (some ⟨w.heap.size, 0, none⟩) m m)) (w.alloc (.cells cs e)))
    (h : ∀ (g : Nat) (w2 : World), w.heap.size ≤ g → g < w2.heap.size → w2.heap[g]? = some (.cells cs e (0, 0)) → Below w.heap.size w w2 → wpList P ops Q rest (a.put o.dst (.slice (some ⟨g, 0, none⟩) m m)) w2) : wpList P ops Q (o :: rest) a w :=
  wpList_step fun K hK => by
    rw [if_pos hw]
    unfold Oper.wp
    rw [hrun]
    exact hK _ _ (h _ _ (Nat.le_refl _) (by simp) (heap_alloc_new _ _) ((Below.refl _ _).alloc (Nat.le_refl _) _))
theorem appRow (hgd : o.guard = none) (s x : Operand) (t e : TypeId) (z : Value) (k bytes : Nat) (ho : o.op = .call { callee := .builtin .append, args := #[s, x], argTypes := #[t, t] })
    (ht : P.underlying t = some (.slice e)) (hinfo : (P.info? e).map (fun i => (i.zero, i.size, i.bytes)) = some (some z, k, bytes)) (hzc : z.cells.size = k) (hk : 0 < k)
    (B : Nat) (v : Value) (n : Nat) (xs : List Value) (hs : a.eval s = v) (hown : w.ownsRow B e k v n xs) (cs : Array Value) (hcs : cs.size = k) (h1 : cs.all (·.oneCell') = true) (g c : Nat) {tt : TypeId} {fr : Nat × Nat}
    (hx : a.eval x = .slice (some ⟨g, 0, none⟩) 1 c) (hg : w.heap[g]? = some (.cells cs tt fr)) (h63 : n + 1 ≤ maxLen) (hb : (n + 1) * bytes ≤ 140737488355328) (hB : B ≤ w.heap.size)
    (h : ∀ (v' : Value) (w2 : World), w2.ownsRow B e k v' (n + 1) (xs ++ cs.toList) → w.grownBy w2 v.ownBlock → (v'.ownBlock = v.ownBlock ∨ v'.ownBlock = some w.heap.size) → wpList P ops Q rest (a.put o.dst v') w2) :
    wpList P ops Q (o :: rest) a w := by
  obtain ⟨i0, hi, hzz⟩ := Option.map_eq_some_iff.1 hinfo
  simp only [Prod.mk.injEq] at hzz
  obtain ⟨hz0, hz1, hz2⟩ := hzz
  refine wpList_append_own_at _ hgd s x t ho B e i0 z k bytes ht hi hz0 hz1 hz2 hzc hk v n xs hs hown ⟨g, 0, none⟩ 1 c cs.toList hx (by simp [hcs]) ?_ ?_ h63 hb hB ?_
  · intro j q hj
    rw [addr_add, cell_of_row w g (0 + j) _ _ _ hg, Nat.zero_add, ← Array.getElem?_toList]
    exact hj
  · intro q hq
    rw [Array.all_eq_true_iff_forall_mem] at h1
    exact h1 q (by simpa using hq)
  · intro v' w2 e1 e2 _ e4
    exact h v' w2 e1 e2 e4
end
section
variable {P : Program} {ops : Array Oper} {Q : Exit → Act → World → Prop} {md : Region.Mode} {S : World → Prop}
/-- Three may come up, in any order. -/
def threeOk (md : Region.Mode) (ops : Array Oper) (l l1 l2 l3 : Array Bool) (i j k : Nat) : Bool := decide (Region.ready md ops l = [i, j, k]) && (decide (l.setIfInBounds i true = l1) && (decide (l.setIfInBounds j true = l2) && decide (l.setIfInBounds k true = l3)))
theorem rgThree {i j k : Nat} {Ni Nj Nk : Option Tmp} {oi oj ok : Oper} {fuel : Nat} {l : Array Bool} {a : Act} {w : World} (l1 l2 l3 : Array Bool) (hi : ops[i]? = some oi) (hNi : oi.dst = Ni) (hj : ops[j]? = some oj) (hNj : oj.dst = Nj) (hk : ops[k]? = some ok) (hNk : ok.dst = Nk) (hc : threeOk md ops l l1 l2 l3 i j k = true)
    (h1 : ∀ K' : Act → World → Prop, Shut (∀ a w, S w → (Hid (S w) → wpAnyH P md ops Q S fuel l1 a w) → K' a w) → if Region.wanted oi (yielded ops a.tmps) = true then Oper.wp P oi a w K' Q else K' (a.put Ni undef) w)
    (h2 : ∀ K' : Act → World → Prop, Shut (∀ a w, S w → (Hid (S w) → wpAnyH P md ops Q S fuel l2 a w) → K' a w) → if Region.wanted oj (yielded ops a.tmps) = true then Oper.wp P oj a w K' Q else K' (a.put Nj undef) w)
    (h3 : ∀ K' : Act → World → Prop, Shut (∀ a w, S w → (Hid (S w) → wpAnyH P md ops Q S fuel l3 a w) → K' a w) → if Region.wanted ok (yielded ops a.tmps) = true then Oper.wp P ok a w K' Q else K' (a.put Nk undef) w) :
    wpAnyH P md ops Q S (fuel + 1) l a w := by
  unfold threeOk at hc
  rw [Bool.and_eq_true, Bool.and_eq_true, Bool.and_eq_true, decide_eq_true_eq, decide_eq_true_eq, decide_eq_true_eq, decide_eq_true_eq] at hc
  obtain ⟨h0, rfl, rfl, rfl⟩ := hc
  subst hNi; subst hNj; subst hNk
  exact wpAnyH_ready h0 (by simp) (AllReadyH.cons hi h1 (AllReadyH.cons hj h2 (AllReadyH.cons hk h3 AllReadyH.nil)))
end
theorem res1c {P : Program} {fn : Func} {p v : Tmp} {ty : TypeId} (h : fn.results = #[.cell p ty, .tmp v]) (tmps : Array Value) (w : World) (g : Nat) (t : TypeId) (cs : Array Value) (fr : Nat × Nat) (d : TypeDesc)
    (hp : tmps.getD p undef = .pointer (some ⟨g, 0, none⟩)) (hg : w.heap[g]? = some (.cells cs t fr)) (hu : P.underlying ty = some d) (hd : d.isRow = true) (hi : (P.info? ty).map (·.size) = some cs.size) :
    (results fn tmps).run P w = .ok (.tuple #[.agg cs, tmps.getD v undef]) w := by
  have hp' : tmps[p]?.getD undef = .pointer (some ⟨g, 0, none⟩) := by simpa using hp
  have hl := run_loadVar_row (P := P) w g t ty cs fr d hg hu (by cases d <;> first | rfl | exact hd) hi
  simp [results, h, hp', asAddr, hl]
theorem RwA.at_ {w : World} {b off k n : Nat} {rs : List (Array Value)} (h : RwA w (some ⟨b, off, none⟩) k n rs) (hn : 0 < n) {j : Nat} {r : Array Value} (hr : rs[j]? = some r) : w.rangeAt b (off + j * k) r.toList := by
  obtain ⟨b', off', hA, _, hc⟩ := h.2.2 hn
  injection hA with hA
  injection hA with h1 h2 _
  subst h1; subst h2
  exact hc j r hr
theorem res3 {P : Program} {fn : Func} {p u v : Tmp} {ty : TypeId} (h : fn.results = #[.cell p ty, .tmp u, .tmp v]) (tmps : Array Value) (w : World) (g : Nat) (t : TypeId) (cs : Array Value) (fr : Nat × Nat) (d : TypeDesc)
    (hp : tmps.getD p undef = .pointer (some ⟨g, 0, none⟩)) (hg : w.heap[g]? = some (.cells cs t fr)) (hu : P.underlying ty = some d) (hd : d.isRow = true) (hi : (P.info? ty).map (·.size) = some cs.size) :
    (results fn tmps).run P w = .ok (.tuple #[.agg cs, tmps.getD u undef, tmps.getD v undef]) w := by
  have hp' : tmps[p]?.getD undef = .pointer (some ⟨g, 0, none⟩) := by simpa using hp
  have hl := run_loadVar_row (P := P) w g t ty cs fr d hg hu (by cases d <;> first | rfl | exact hd) hi
  simp [results, h, hp', asAddr, hl]
end Go.Proofs.YtaclidjhgpkmpaaDoor.My
