import Derived.Test.YtnigkecpiolgeaaDoorProg
import Derived.WalkKit
import Derived.WalkSpells
import Derived.WalkLawsBesides
import Derived.Below
import Derived.Laws.Rows
import Derived.Laws.StructEq
import Derived.Deep.MidRow
import Derived.KernelRfl
import Derived.Deep.RegionHeld3
import Derived.OrdersHeld
import Derived.Lib.Hide
import Derived.Laws.CopyOwn
import Derived.Laws.AppendOwn
import Derived.Deep.AppendLies
import Derived.Deep.OwnRows
import Derived.ProofKit
import Derived.OpenShut
import Derived.ShutString
import Derived.ChangeOld
import Derived.Carry
import Derived.SizedLaws
import Derived.Laws.RangeAny
import Derived.LoopTactic
import Derived.Outline
import Derived.BigQuiet
import Derived.Deep.QuietTactic
import Derived.RegionTactic
import Derived.Laws.BitsLemmas
import Derived.Laws.IdiomStrings
import Derived.Laws.Concat
import Derived.Maps.AppendAt
import Derived.ArgAppend
import Derived.OwnWalk
import Derived.Laws.AppendOwnNone
/- Words of this session: arrays of whole numbers as values ('[n]T'), told by the list of their numbers. -/
namespace Go.Proofs.YtnigkecpiolgeaaDoor.My
open Go.RowKit

/-- The cells of an array of numbers. -/
def ma (k : IntKind) (xs : List Int) : Array Value := (xs.map (Value.int k)).toArray

theorem ma_size (k : IntKind) (xs : List Int) : (ma k xs).size = xs.length := by simp [ma]

theorem ma_get {k : IntKind} {xs : List Int} {i : Nat} (h : i < xs.length) : (ma k xs)[i]? = some (.int k (xs.getD i 0)) := by
  simp [ma, List.getElem?_eq_getElem h, List.getD_eq_getElem?_getD]

theorem ma_set (k : IntKind) (xs : List Int) (i : Nat) (v : Int) : (ma k xs).setIfInBounds i (.int k v) = ma k (xs.set i v) := by
  simp only [ma, List.setIfInBounds_toArray, List.map_set]

theorem ma_one (k : IntKind) (xs : List Int) : (ma k xs).all (·.oneCell') = true := by
  rw [Array.all_eq_true_iff_forall_mem]
  intro v hv
  simp [ma] at hv
  obtain ⟨a, _, rfl⟩ := hv
  rfl

theorem ma_toList (k : IntKind) (xs : List Int) : (ma k xs).toList = xs.map (Value.int k) := by simp [ma]

theorem ma_range {w : World} {b : Nat} {k : IntKind} {xs : List Int} {t : TypeId} {fr : Nat × Nat} (h : w.heap[b]? = some (.cells (ma k xs) t fr)) : w.rangeAt b 0 (xs.map (Value.int k)) := by
  intro j v hv
  rw [cell_of_row w b (0 + j) _ _ _ h]
  simpa [ma] using hv

theorem all_range_eqI : ∀ (xs ys : List Int), xs.length = ys.length → ((List.range xs.length).all fun i => xs.getD i 0 == ys.getD i 0) = (xs == ys)
  | [], [], _ => rfl
  | x :: xs, y :: ys, h => by
    have ih := all_range_eqI xs ys (by simpa using h)
    rw [List.length_cons, List.range_succ_eq_map, List.all_cons, List.all_map]
    simp only [List.getD_cons_zero, Function.comp_def, List.getD_cons_succ, ih]
    simp [List.cons_beq_cons]
  | [], _ :: _, h => by simp at h
  | _ :: _, [], h => by simp at h

theorem equalIn_ma {P : Program} (w : World) (d : Nat) (t e : TypeId) (n : Nat) (k : IntKind) (ht : P.underlying t = some (.array n e)) (he : P.underlying e = some (.int k)) (hsz : ∀ w, (sizeOf e).run P w = .ok 1 w)
    (xs ys : List Int) (hx : xs.length = n) (hy : ys.length = n) :
    (Op.equalIn (d + 2) t (.agg (ma k xs)) (.agg (ma k ys))).run P w = .ok (xs == ys) w := by
  rw [← all_range_eqI xs ys (hx.trans hy.symm), hx, List.range_eq_range', Op.equalIn]
  simp only [Sem.run_bind, run_underlying ht, Result.andThen_ok, hsz, Std.Legacy.Range.forIn_eq_forIn_range', Std.Legacy.Range.size, Nat.sub_zero, Nat.add_sub_cancel, Nat.div_one]
  have hl : ∀ i ∈ List.range' 0 n 1, i < n := fun i hi => by simpa using (List.mem_range'_1.1 hi).2
  generalize List.range' 0 n 1 = l at hl ⊢
  induction l with
  | nil => simp
  | cons i l ih =>
    have hi : i < n := hl i (by simp)
    have px : (part e (ma k xs) (i * 1)).run P w = .ok (.int k (xs.getD i 0)) w := by
      simp [part, isAgg, run_underlying he, ma_get (k := k) (show i < xs.length by omega)]
    have py : (part e (ma k ys) (i * 1)).run P w = .ok (.int k (ys.getD i 0)) w := by
      simp [part, isAgg, run_underlying he, ma_get (k := k) (show i < ys.length by omega)]
    have pe : (Op.equalIn (d + 1) e (.int k (xs.getD i 0)) (.int k (ys.getD i 0))).run P w = .ok (xs.getD i 0 == ys.getD i 0) w := by
      rw [run_equalIn_int w d e k k _ _ he]
    simp only [List.forIn_cons, Sem.run_bind, px, py, pe, Result.andThen_ok, List.all_cons]
    cases hb : (xs.getD i 0 == ys.getD i 0)
    · simp
    · simp only [Bool.not_true, Bool.false_eq_true, if_false, Sem.run_pure, Result.andThen_ok, Bool.true_and]
      exact ih fun j hj => hl j (by simp [hj])

theorem eql_ma {P : Program} (t e : TypeId) (n : Nat) (k : IntKind) (ht : P.underlying t = some (.array n e)) (he : P.underlying e = some (.int k)) (hsz : ∀ w, (sizeOf e).run P w = .ok 1 w)
    (xs ys : List Int) (hx : xs.length = n) (hy : ys.length = n) (w : World) :
    (binOp .eql t (.agg (ma k xs)) (.agg (ma k ys))).run P w = .ok (.bool (xs == ys)) w := by
  rw [run_eql_struct, equalIn_ma w 9998 t e n k ht he hsz xs ys hx hy]
  rfl

end Go.Proofs.YtnigkecpiolgeaaDoor.My
/- Words of this session: a region that draws its order, walked one operation at a time: what only reads is taken first, the calls come in their one order. -/
namespace Go.Proofs.YtnigkecpiolgeaaDoor.My
open Go.RowKit
section
variable {P : Program} {ops : Array Oper} {Q : Exit → Act → World → Prop} {md : Region.Mode} {S : World → Prop}

theorem rgStart {id n : Nat} {a : Act} {w : World} (l : Array Bool) (hm : P.follows .mixedOrders = true) (hn : ops.size = n) (hl : Array.replicate n false = l) (hS : S w.drew)
    (h : Hid (S w.drew) → wpAnyH P .any ops Q S n l a w.drew) : (Code.region id ops true).wp P Q a w := by
  subst hn; subst hl
  exact wp_region_held_drew hm hS h

/-- Number i may be taken first, and l' is what is listed then. -/
def takeOk (md : Region.Mode) (ops : Array Oper) (l l' : Array Bool) (i : Nat) : Bool := Region.noSelect ops && (Region.free md ops l i && ((Region.ready md ops l).contains i && decide (l.setIfInBounds i true = l')))

theorem rgTake {i : Nat} {N : Option Tmp} {oi : Oper} {v : Value} {fuel : Nat} {l : Array Bool} {a : Act} {w : World} (l' : Array Bool) (hi : ops[i]? = some oi) (hN : oi.dst = N) (hc : takeOk md ops l l' i = true)
    (hQ : ∀ c a w, Q (.panic c) (a.put N v) w → Q (.panic c) a w) (hy : YieldsIf P ops S oi v a) (hS : Hid (S w))
    (h : wpAnyH P md ops Q S fuel l' (a.put N v) w) : wpAnyH P md ops Q S (fuel + 1) l a w := by
  unfold takeOk at hc
  rw [Bool.and_eq_true, Bool.and_eq_true, Bool.and_eq_true, decide_eq_true_eq] at hc
  obtain ⟨h1, h2, h3, rfl⟩ := hc
  subst hN
  exact wpAnyH_take hi h1 h2 h3 hQ hy hS h

/-- Number i alone may come up, and l' is what is listed then. -/
def callOk (md : Region.Mode) (ops : Array Oper) (l l' : Array Bool) (i : Nat) : Bool := decide (Region.ready md ops l = [i]) && decide (l.setIfInBounds i true = l')

theorem rgCall {i : Nat} {N : Option Tmp} {oi : Oper} {fuel : Nat} {l : Array Bool} {a : Act} {w : World} (l' : Array Bool) (hi : ops[i]? = some oi) (hN : oi.dst = N) (hc : callOk md ops l l' i = true)
    (h : ∀ K' : Act → World → Prop, Shut (∀ a w, S w → (Hid (S w) → wpAnyH P md ops Q S fuel l' a w) → K' a w) → if Region.wanted oi (yielded ops a.tmps) = true then Oper.wp P oi a w K' Q else K' (a.put N undef) w) :
    wpAnyH P md ops Q S (fuel + 1) l a w := by
  unfold callOk at hc
  rw [Bool.and_eq_true, decide_eq_true_eq, decide_eq_true_eq] at hc
  obtain ⟨h1, rfl⟩ := hc
  subst hN
  exact wpAnyH_ready h1 (by simp) (AllReadyH.cons hi h AllReadyH.nil)

/-- Two may come up, in either order. -/
def twoOk (md : Region.Mode) (ops : Array Oper) (l l1 l2 : Array Bool) (i j : Nat) : Bool := decide (Region.ready md ops l = [i, j]) && (decide (l.setIfInBounds i true = l1) && decide (l.setIfInBounds j true = l2))
theorem rgTwo {i j : Nat} {Ni Nj : Option Tmp} {oi oj : Oper} {fuel : Nat} {l : Array Bool} {a : Act} {w : World} (l1 l2 : Array Bool) (hi : ops[i]? = some oi) (hNi : oi.dst = Ni) (hj : ops[j]? = some oj) (hNj : oj.dst = Nj) (hc : twoOk md ops l l1 l2 i j = true)
    (h1 : ∀ K' : Act → World → Prop, Shut (∀ a w, S w → (Hid (S w) → wpAnyH P md ops Q S fuel l1 a w) → K' a w) → if Region.wanted oi (yielded ops a.tmps) = true then Oper.wp P oi a w K' Q else K' (a.put Ni undef) w)
    (h2 : ∀ K' : Act → World → Prop, Shut (∀ a w, S w → (Hid (S w) → wpAnyH P md ops Q S fuel l2 a w) → K' a w) → if Region.wanted oj (yielded ops a.tmps) = true then Oper.wp P oj a w K' Q else K' (a.put Nj undef) w) :
    wpAnyH P md ops Q S (fuel + 1) l a w := by
  unfold twoOk at hc
  rw [Bool.and_eq_true, Bool.and_eq_true, decide_eq_true_eq, decide_eq_true_eq, decide_eq_true_eq] at hc
  obtain ⟨h0, rfl, rfl⟩ := hc
  subst hNi; subst hNj
  exact wpAnyH_ready h0 (by simp) (AllReadyH.cons hi h1 (AllReadyH.cons hj h2 AllReadyH.nil))
/-- A new variable, in a region that draws its order; which block it is, is left open. -/
theorem rgAlloc {oi : Oper} {a : Act} {w : World} {K : Act → World → Prop} {E : Prop} (o : Obj) (hrun : (execOp a.eval oi).run P w = .ok (.value (.pointer (some ⟨w.heap.size, 0, none⟩))) (w.alloc o)) (hw : Region.wanted oi (yielded ops a.tmps) = true)
    (h : ∀ (g : Nat) (w2 : World), w.heap.size ≤ g → g < w2.heap.size → w2.heap[g]? = some o → Below w.heap.size w w2 → K (a.put oi.dst (.pointer (some ⟨g, 0, none⟩))) w2) : if Region.wanted oi (yielded ops a.tmps) = true then Oper.wp P oi a w K Q else E := by
  rw [if_pos hw]
  unfold Oper.wp
  rw [hrun]
  exact h _ _ (Nat.le_refl _) (by simp) (heap_alloc_new w o) ((Below.refl _ _).alloc (Nat.le_refl _) o)

theorem rgDone {l : Array Bool} {a : Act} {w : World} (hr : decide (Region.ready md ops l = []) = true) (h : Q .normal a w) (fuel : Nat) : wpAnyH P md ops Q S fuel l a w :=
  wpAnyH_done (of_decide_eq_true hr) h fuel

theorem yieldsMa {oi : Oper} {a : Act} (hw : Region.wanted oi (yielded ops a.tmps) = true) (ty : TypeId) (x : Operand) (ho : oi.op = .load ty x)
    (b : Nat) (hx : a.eval x = .pointer (some ⟨b, 0, none⟩)) (k : IntKind) (xs : List Int) (hS : ∀ w, S w → w.rangeAt b 0 (xs.map (Value.int k)))
    {d : TypeDesc} (hu : P.underlying ty = some d) (hd : d.isRow = true) (hi : (P.info? ty).map (·.size) = some xs.length) : YieldsIf P ops S oi (.agg (ma k xs)) a :=
  yieldsIf_load_mid hw ty x ho b 0 hx (xs.map (Value.int k)) d hS hu hd (by rw [List.length_map]; exact hi)
end

theorem keepA {w w' : World} {g : Nat} {o : Obj} (h : Hid (w.heap[g]? = some o)) (hb : Below w.heap.size w w') : Hid (w'.heap[g]? = some o) := by
  have hlt : g < w.heap.size := (Array.getElem?_eq_some_iff.1 h.out).1
  exact (hb.block g hlt).trans h.out
theorem keepB {B : Nat} {w0 w w' : World} (h : Hid (Below B w0 w ∧ B ≤ w.heap.size)) (hb : Below w.heap.size w w') : Hid (Below B w0 w' ∧ B ≤ w'.heap.size) :=
  ⟨h.out.1.trans ⟨hb.os, hb.tape, hb.output, hb.size, fun i hi => hb.block i (Nat.lt_of_lt_of_le hi h.out.2)⟩, Nat.le_trans h.out.2 hb.size⟩
theorem keepR {w w' : World} {b : Nat} {cs : List Value} (h : Hid (w.rangeAt b 0 cs)) (hb : Below w.heap.size w w') : w'.rangeAt b 0 cs := fun j v hv => by
  have h1 := h.out j v hv
  exact (hb.cell (World.block_lt_of_cell? w _ h1)).trans h1
theorem below_dn {B : Nat} {w W : World} (h : Below B w W) (n : Nat) : Below B w (W.drewN n) := ⟨h.os, h.tape, h.output, h.size, h.block⟩
theorem below_setRow {B : Nat} {w W : World} (h : Below B w W) {g : Nat} (hg : B ≤ g) (cs : Array Value) : Below B w (W.setRow g cs) :=
  ⟨h.os, h.tape, h.output, by simpa using h.size, fun i hi => by rw [setRow_other _ _ _ _ (by omega)]; exact h.block i hi⟩
theorem ret_bool {a b : Bool} (h : a = b) : Ending.returned (.bool a) = .returned (.bool b) := by rw [h]

end Go.Proofs.YtnigkecpiolgeaaDoor.My
/- Words of this session: whole rows (structs, arrays) loaded and stored, with the world left abstract. -/
namespace Go.Proofs.YtnigkecpiolgeaaDoor.My
open Go.RowKit

/-- Only block g has turned. -/
structure Only (g : Nat) (w w' : World) : Prop where
  os : w'.os = w.os
  tape : w'.tape = w.tape
  output : w'.output = w.output
  size : w'.heap.size = w.heap.size
  block : ∀ k, k ≠ g → w'.heap[k]? = w.heap[k]?

theorem keepBo {B g : Nat} {w0 w w' : World} (h : Hid (Below B w0 w ∧ B ≤ w.heap.size)) (hg : B ≤ g) (ho : Only g w w') : Hid (Below B w0 w' ∧ B ≤ w'.heap.size) :=
  ⟨⟨ho.os.trans h.out.1.os, ho.tape.trans h.out.1.tape, ho.output.trans h.out.1.output, by rw [ho.size]; exact h.out.1.size, fun i hi => (ho.block i (by omega)).trans (h.out.1.block i hi)⟩, by rw [ho.size]; exact h.out.2⟩
theorem keepAo {g k : Nat} {w w' : World} {o : Obj} (h : Hid (w.heap[k]? = some o)) (hk : k ≠ g) (ho : Only g w w') : Hid (w'.heap[k]? = some o) := (ho.block k hk).trans h.out
theorem only_setRow (w : World) (g : Nat) (cs : Array Value) : Only g w (w.setRow g cs) := ⟨rfl, rfl, rfl, by simp, fun k hk => setRow_other _ _ _ _ hk⟩
theorem keepBd {B : Nat} {w0 w : World} (h : Hid (Below B w0 w ∧ B ≤ w.heap.size)) (n : Nat) : Hid (Below B w0 (w.drewN n) ∧ B ≤ (w.drewN n).heap.size) := ⟨below_dn h.out.1 n, h.out.2⟩
theorem keepB1 {B : Nat} {w0 w : World} (h : Hid (Below B w0 w ∧ B ≤ w.heap.size)) : Hid (Below B w0 w.drew ∧ B ≤ w.drew.heap.size) := ⟨below_dn h.out.1 1, h.out.2⟩
theorem keepBa {B : Nat} {w0 w : World} (h : Hid (Below B w0 w ∧ B ≤ w.heap.size)) (o : Obj) : Hid (Below B w0 (w.alloc o) ∧ B ≤ (w.alloc o).heap.size) := ⟨h.out.1.alloc h.out.2 o, by simp; have := h.out.2; omega⟩
theorem keepAa {k : Nat} {w : World} {o : Obj} (h : Hid (w.heap[k]? = some o)) (o' : Obj) : Hid ((w.alloc o').heap[k]? = some o) := by
  have hlt : k < w.heap.size := (Array.getElem?_eq_some_iff.1 h.out).1
  show (w.heap.push o')[k]? = _
  rw [Array.getElem?_push, if_neg (Nat.ne_of_lt hlt)]
  exact h.out
theorem startB (w : World) : Hid (Below w.heap.size w w ∧ w.heap.size ≤ w.heap.size) := ⟨Below.refl _ _, Nat.le_refl _⟩

section
variable {P : Program} {ops : Array Oper} {Q : Exit → Act → World → Prop} {rest : List Oper} {o : Oper} {a : Act} {w : World}
theorem rowLoad (hw : Region.wanted o (yielded ops a.tmps) = true) (ty : TypeId) (x : Operand) (ho : o.op = .load ty x) (g : Nat) (hx : a.eval x = .pointer (some ⟨g, 0, none⟩))
    {t : TypeId} {cs : Array Value} {fr : Nat × Nat} {d : TypeDesc} (hg : w.heap[g]? = some (.cells cs t fr)) (hu : P.underlying ty = some d) (hd : d.isRow = true) (hi : (P.info? ty).map (·.size) = some cs.size)
    (h : wpList P ops Q rest (a.put o.dst (.agg cs)) w) : wpList P ops Q (o :: rest) a w :=
  wpList_step fun K hK => by
    rw [if_pos hw]
    exact wp_load_row ty x ho g hx t cs fr d hg hu (by cases d <;> first | rfl | exact hd) hi (hK _ _ h)
theorem rowStore (hw : Region.wanted o (yielded ops a.tmps) = true) (ty : TypeId) (x y : Operand) (ho : o.op = .store ty x y) (g : Nat) (hx : a.eval x = .pointer (some ⟨g, 0, none⟩))
    (cells : Array Value) (hy : a.eval y = .agg cells) {t : TypeId} {old : Array Value} (hg : w.heap[g]? = some (.cells old t (0, 0))) (hi : (P.info? ty).map (·.size) = some cells.size) (hold : old.size = cells.size) (h1 : cells.all (·.oneCell') = true)
    (h : ∀ w2 : World, w2.heap[g]? = some (.cells cells t (0, 0)) → Only g w w2 → wpList P ops Q rest (a.put o.dst undef) w2) : wpList P ops Q (o :: rest) a w :=
  wpList_step fun K hK => by
    rw [if_pos hw]
    exact wp_store_row ty x y ho g cells hx hy t old hg hi hold h1 (hK _ _ (h _ (setRow_heap _ _ _ _ _ _ hg) (only_setRow _ _ _)))
/-- A new variable, and what is laid into it. -/
theorem rowNew {w1 : World} {t : TypeId} {old : Array Value} (hw : Region.wanted o (yielded ops a.tmps) = true) (ty : TypeId) (x y : Operand) (ho : o.op = .store ty x y) (hx : a.eval x = .pointer (some ⟨w1.heap.size, 0, none⟩))
    (cells : Array Value) (hy : a.eval y = .agg cells) (hi : (P.info? ty).map (·.size) = some cells.size) (hold : old.size = cells.size) (h1 : cells.all (·.oneCell') = true)
    (h : ∀ w2 : World, w2.heap[w1.heap.size]? = some (.cells cells t (0, 0)) → Below w1.heap.size w1 w2 → wpList P ops Q rest (a.put o.dst undef) w2) : wpList P ops Q (o :: rest) a (w1.alloc (.cells old t)) :=
  wpList_step fun K hK => by
    rw [if_pos hw]
    exact wp_store_row ty x y ho w1.heap.size cells hx hy t old (heap_alloc_new _ _) hi hold h1 (hK _ _ (h _ (setRow_heap _ _ _ _ _ _ (heap_alloc_new _ _)) (below_setRow ((Below.refl _ _).alloc (Nat.le_refl _) _) (Nat.le_refl _) _)))
end
section
variable {P : Program} {ops : Array Oper} {S : World → Prop}
/-- The load of a whole row, in a region that draws its order: S says what the block holds. -/
theorem yieldsRow {oi : Oper} {a : Act} (hw : Region.wanted oi (yielded ops a.tmps) = true) (ty : TypeId) (x : Operand) (ho : oi.op = .load ty x) (g : Nat) (hx : a.eval x = .pointer (some ⟨g, 0, none⟩))
    {t : TypeId} {cs : Array Value} {fr : Nat × Nat} {d : TypeDesc} (hS : ∀ w, S w → w.heap[g]? = some (.cells cs t fr)) (hu : P.underlying ty = some d) (hd : d.isRow = true) (hi : (P.info? ty).map (·.size) = some cs.size) : YieldsIf P ops S oi (.agg cs) a :=
  .inl ⟨hw, fun w hw' => by
    unfold execOp
    simp only [ho, hx, Instr.loadAt, Instr.sureAddr, Sem.run_bind, Sem.run_pure, Result.andThen_ok, run_loadVar_row w g t ty cs fr d (hS w hw') hu (by cases d <;> first | rfl | exact hd) hi]⟩
end
theorem cellA {w : World} {g : Nat} {cs : Array Value} {t : TypeId} {fr : Nat × Nat} (h : Hid (w.heap[g]? = some (.cells cs t fr))) (j : Nat) : w.cell? ⟨g, j, none⟩ = cs[j]? := cell_of_row w g j cs t fr h.out

end Go.Proofs.YtnigkecpiolgeaaDoor.My
/- Words of this session: slices of whole numbers that are read, told by the list of their numbers; new ones; stores of rows in drawn regions. -/
namespace Go.Proofs.YtnigkecpiolgeaaDoor.My
open Go.RowKit

/-- Element i. -/
def el (xs : List Int) (i : Nat) : Int := (xs[i]?).getD 0
theorem el_at {xs : List Int} {i : Nat} (h : i < xs.length) : xs[i]? = some (el xs i) := by simp [el, List.getElem?_eq_getElem h]
theorem ext_el {xs ys : List Int} (hx : xs.length = ys.length) (h : ∀ k, k < xs.length → el xs k = el ys k) : xs = ys := by
  apply List.ext_getElem hx
  intro k h1 h2
  have := h k h1
  simpa [el, List.getElem?_eq_getElem h1, List.getElem?_eq_getElem h2] using this
theorem el_set_same {xs : List Int} {i : Nat} (h : i < xs.length) (v : Int) : el (xs.set i v) i = v := by simp [el, List.getElem?_set_self h]
theorem el_set_other {xs : List Int} {i j : Nat} (h : i ≠ j) (v : Int) : el (xs.set i v) j = el xs j := by simp [el, List.getElem?_set_ne h]

/-- A slice of numbers that is read, of n numbers. -/
def RdA (k : IntKind) (w : World) (A : Option Addr) (n : Nat) (xs : List Int) : Prop :=
  xs.length = n ∧ (0 < n → ∃ b off, A = some ⟨b, off, none⟩ ∧ ∀ j, j < n → w.cell? ⟨b, off + j, none⟩ = some (.int k (el xs j)))
theorem RdA.below {k : IntKind} {w w' : World} {A : Option Addr} {n : Nat} {xs : List Int} (h : RdA k w A n xs) (hb : Below w.heap.size w w') : RdA k w' A n xs :=
  ⟨h.1, fun hn => by
    obtain ⟨b, off, rfl, hc⟩ := h.2 hn
    exact ⟨b, off, rfl, fun j hj => (hb.cell (World.block_lt_of_cell? w _ (hc j hj))).trans (hc j hj)⟩⟩
/-- The slice's memory lies from block B on. -/
def Fresh (B : Nat) (A : Option Addr) : Prop := ∀ a, A = some a → B ≤ a.block
theorem RdA.only {k : IntKind} {w w' : World} {A : Option Addr} {n g : Nat} {xs : List Int} (h : RdA k w A n xs) (ho : Only g w w') (hg : Fresh (g + 1) A) : RdA k w' A n xs :=
  ⟨h.1, fun hn => by
    obtain ⟨b, off, rfl, hc⟩ := h.2 hn
    have hbg : b ≠ g := by have := hg _ rfl; simp at this; omega
    refine ⟨b, off, rfl, fun j hj => ?_⟩
    have h1 := hc j hj
    unfold World.cell? at h1 ⊢
    simp only [ho.block b hbg]
    exact h1⟩
theorem RdA.only2 {k : IntKind} {w w' : World} {A : Option Addr} {n g : Nat} {xs : List Int} (h : RdA k w A n xs) (ho : Only g w w') (hg : ∀ a, A = some a → 0 < n → a.block ≠ g) : RdA k w' A n xs :=
  ⟨h.1, fun hn => by
    obtain ⟨b, off, rfl, hc⟩ := h.2 hn
    have hbg : b ≠ g := hg _ rfl hn
    refine ⟨b, off, rfl, fun j hj => ?_⟩
    have h1 := hc j hj
    unfold World.cell? at h1 ⊢
    simp only [ho.block b hbg]
    exact h1⟩
theorem RdA.lt {k : IntKind} {w : World} {A : Option Addr} {n : Nat} {xs : List Int} (h : RdA k w A n xs) : ∀ a, A = some a → 0 < n → a.block < w.heap.size := fun a ha hn => by
  obtain ⟨b, off, hA, hc⟩ := h.2 hn
  rw [hA] at ha
  injection ha with ha
  subst ha
  exact World.block_lt_of_cell? w _ (hc 0 hn)
theorem Fresh.mono {B B' : Nat} {A : Option Addr} (h : Fresh B A) (hB : B' ≤ B) : Fresh B' A := fun a ha => Nat.le_trans hB (h a ha)
theorem RdA.drew {k : IntKind} {w : World} {A : Option Addr} {n : Nat} {xs : List Int} (h : RdA k w A n xs) (m : Nat) : RdA k (w.drewN m) A n xs := h
theorem RdA.of_row {k : IntKind} {w : World} {g n : Nat} {xs : List Int} {t : TypeId} {fr : Nat × Nat} (hl : xs.length = n) (h : w.heap[g]? = some (.cells (ma k xs) t fr)) : RdA k w (some ⟨g, 0, none⟩) n xs :=
  ⟨hl, fun _ => ⟨g, 0, rfl, fun j hj => by
    rw [cell_of_row w g (0 + j) _ _ _ h, Nat.zero_add]
    simp [ma, el_at (show j < xs.length by omega)]⟩⟩
theorem RdA.of_own {k : IntKind} {w : World} {B n : Nat} {e : TypeId} {v : Value} {xs : List Int} (h : w.ownsRow B e 1 v n (xs.map (Value.int k))) : ∃ A c, v = .slice A n c ∧ RdA k w A n xs ∧ Fresh B A := by
  have hl : xs.length = n := by have := h.1; simpa using this
  rcases h.2 with ⟨rfl, hn⟩ | ⟨g, cap, cur, rfl, hB, _⟩
  · have : n = 0 := by simpa [hl] using hn
    subst this
    exact ⟨none, 0, rfl, ⟨hl, fun h => absurd h (Nat.lt_irrefl 0)⟩, fun a ha => by cases ha⟩
  · refine ⟨_, cap, rfl, ⟨hl, fun hn => ⟨g, 0, rfl, fun j hj => ?_⟩⟩, fun a ha => by injection ha with ha; subst ha; exact hB⟩
    have hc := h.cells (g := g) rfl j (.int k (el xs j)) (by simp [el_at (show j < xs.length by omega)])
    have ha : (⟨g, 0, none⟩ : Addr).add j = ⟨g, 0 + j, none⟩ := by unfold Addr.add; split <;> simp_all
    rwa [ha] at hc

section
variable {P : Program} {ops : Array Oper} {o : Oper} {a : Act} {w : World} {K : Act → World → Prop} {Q : Exit → Act → World → Prop} {E : Prop}
/-- A row stored, in a region that draws its order. -/
theorem rgStore (hw : Region.wanted o (yielded ops a.tmps) = true) (ty : TypeId) (x y : Operand) (ho : o.op = .store ty x y) (g : Nat) (hx : a.eval x = .pointer (some ⟨g, 0, none⟩))
    (cells : Array Value) (hy : a.eval y = .agg cells) {t : TypeId} {old : Array Value} (hg : w.heap[g]? = some (.cells old t (0, 0))) (hi : (P.info? ty).map (·.size) = some cells.size) (hold : old.size = cells.size) (h1 : cells.all (·.oneCell') = true)
    (h : ∀ w2 : World, w2.heap[g]? = some (.cells cells t (0, 0)) → Only g w w2 → K (a.put o.dst undef) w2) : if Region.wanted o (yielded ops a.tmps) = true then Oper.wp P o a w K Q else E := by
  rw [if_pos hw]
  exact wp_store_row ty x y ho g cells hx hy t old hg hi hold h1 (h _ (setRow_heap _ _ _ _ _ _ hg) (only_setRow _ _ _))
end
section
variable {P : Program} {ops : Array Oper} {o : Oper} {a : Act} {w : World} {Q : Exit → Act → World → Prop} {rest : List Oper}
theorem run_storeVar_one (w : World) (g j : Nat) (ty : TypeId) (v : Value) (hv : v.cells = #[v]) (hv1 : v.oneCell' = true) {t : TypeId} {cur : Array Value} (hg : w.heap[g]? = some (.cells cur t (0, 0))) (hj : j < cur.size) (hi : (P.info? ty).map (·.size) = some 1) :
    (storeVar ty ⟨g, j, none⟩ v).run P w = .ok () (w.setRow g (cur.setIfInBounds j v)) := by
  have hc : (w.cell? ⟨g, j, none⟩).isSome = true := by rw [cell_of_row w g j cur t _ hg]; simp [hj]
  have hf : w.frozen? ⟨g, j, none⟩ = false := frozen_of_row w g j cur t hg
  have := run_storeCells_cells (P := P) g j [v] 0 w (fun i hi => by
      have : i = 0 := by simpa using hi
      subst this; simpa using hc) (fun i hi => by
      have : i = 0 := by simpa using hi
      subst this; simpa using hf) (fun u hu => by
      have : u = v := by simpa using hu
      subst this; exact hv1)
  have he : w.setCells g (j + 0) [v] = w.setRow g (cur.setIfInBounds j v) := by
    rw [← setCell_eq_setRow w g j cur t _ v hg]; rfl
  rw [he] at this
  cases hq : P.info? ty with
  | none => simp [hq] at hi
  | some i =>
    have hs : i.size = 1 := by simpa [hq] using hi
    simp [storeVar, sizeOf, typeInfo, hq, hv, hs, this]
/-- One cell stored: an element, a field. -/
theorem cellStore (hw : Region.wanted o (yielded ops a.tmps) = true) (ty : TypeId) (x y : Operand) (ho : o.op = .store ty x y) (g j : Nat) (hx : a.eval x = .pointer (some ⟨g, j, none⟩))
    (v : Value) (hy : a.eval y = v) (hv : v.cells = #[v]) (hv1 : v.oneCell' = true) {t : TypeId} {cur : Array Value} (hg : w.heap[g]? = some (.cells cur t (0, 0))) (hj : j < cur.size) (hi : (P.info? ty).map (·.size) = some 1)
    (h : ∀ w2 : World, w2.heap[g]? = some (.cells (cur.setIfInBounds j v) t (0, 0)) → Only g w w2 → wpList P ops Q rest (a.put o.dst undef) w2) : wpList P ops Q (o :: rest) a w :=
  wpList_step fun K hK => by
    rw [if_pos hw]
    unfold Oper.wp execOp
    simp only [ho, hx, hy, Instr.storeAt, Instr.sureAddr, Sem.run_bind, Sem.run_pure, Result.andThen_ok, run_storeVar_one w g j ty v hv hv1 hg hj hi]
    exact hK _ _ (h _ (setRow_heap _ _ _ _ _ _ hg) (only_setRow _ _ _))
end
theorem made_rep (z : Value) (n : Nat) : madeCells #[z] n = (List.replicate n z).toArray := by
  apply Array.ext'
  apply List.ext_getElem
  · simp [madeCells]
  · intro i h1 h2
    simp [madeCells, Nat.mod_one]
theorem RdA.src {k : IntKind} {w : World} {A : Option Addr} {n : Nat} {xs : List Int} (h : RdA k w A n xs) (hp : 0 < (xs.map (Value.int k)).length) : ∃ ad, A = some ad ∧ ∀ j v, (xs.map (Value.int k))[j]? = some v → w.cell? (ad.add j) = some v := by
  obtain ⟨b, off, rfl, hc⟩ := h.2 (by have := h.1; simp at hp; omega)
  refine ⟨_, rfl, fun j v hv => ?_⟩
  have ha : (⟨b, off, none⟩ : Addr).add j = ⟨b, off + j, none⟩ := by unfold Addr.add; split <;> simp_all
  have hj : j < xs.length := by
    rcases Nat.lt_or_ge j xs.length with h | h
    · exact h
    · rw [List.getElem?_eq_none (by simpa using h)] at hv; cases hv
  rw [ha, hc j (by have := h.1; omega)]
  simp [List.getElem?_eq_getElem hj] at hv
  rw [← hv]; simp [el, List.getElem?_eq_getElem hj]
theorem ones_ma (k : IntKind) (xs : List Int) : ∀ v ∈ xs.map (Value.int k), v.oneCell' = true := by
  intro v hv
  obtain ⟨x, _, rfl⟩ := List.mem_map.1 hv
  rfl
theorem RdA.of_cur {k : IntKind} {w : World} {g n : Nat} {xs : List Int} {cur : Array Value} {t : TypeId} {fr : Nat × Nat} (hl : xs.length = n) (h : w.heap[g]? = some (.cells cur t fr)) (hc : cur.toList.take n = xs.map (Value.int k)) : RdA k w (some ⟨g, 0, none⟩) n xs :=
  ⟨hl, fun _ => ⟨g, 0, rfl, fun j hj => by
    rw [cell_of_row w g (0 + j) _ _ _ h, Nat.zero_add, ← Array.getElem?_toList]
    have h1 : (cur.toList.take n)[j]? = cur.toList[j]? := List.getElem?_take_of_lt hj
    rw [← h1, hc]
    simp [el_at (show j < xs.length by omega)]⟩⟩
theorem cur_set {k : IntKind} {n i : Nat} {xs : List Int} {cur : Array Value} {p : Int} (hc : cur.toList.take n = xs.map (Value.int k)) : (cur.setIfInBounds i (.int k p)).toList.take n = (xs.set i p).map (Value.int k) := by
  rw [Array.toList_setIfInBounds, List.take_set, hc, List.map_set]
section
variable {P : Program} {ops : Array Oper} {o : Oper} {a : Act} {w : World} {Q : Exit → Act → World → Prop} {rest : List Oper}
/-- append(nil, s...): a copy in new memory. -/
theorem appNil (hgd : o.guard = none) (s x : Operand) (t e : TypeId) (k : IntKind) (bytes : Nat) (ho : o.op = .call { callee := .builtin .append, args := #[s, x], argTypes := #[t, t] })
    (ht : P.underlying t = some (.slice e)) (hinfo : (P.info? e).map (fun i => (i.zero, i.size, i.bytes)) = some (some (.int k 0), 1, bytes)) (hs : a.eval s = .slice none 0 0)
    (A : Option Addr) (n c : Nat) (xs : List Int) (hx : a.eval x = .slice A n c) (hn : 0 < n) (hr : RdA k w A n xs) (h63 : n ≤ maxLen) (hb : n * bytes ≤ 140737488355328)
    (h : ∀ (g cap : Nat) (cur : Array Value) (w2 : World), w.heap.size ≤ g → w2.heap[g]? = some (.cells cur e (0, 0)) → n ≤ cur.size → cur.toList.take n = xs.map (Value.int k) → Below w.heap.size w w2 → wpList P ops Q rest (a.put o.dst (.slice (some ⟨g, 0, none⟩) n cap)) w2) :
    wpList P ops Q (o :: rest) a w := by
  obtain ⟨i0, hi, hzz⟩ := Option.map_eq_some_iff.1 hinfo
  simp only [Prod.mk.injEq] at hzz
  obtain ⟨hz0, hz1, hz2⟩ := hzz
  obtain ⟨ad, rfl, hsrc⟩ := hr.src (by simp [hr.1]; exact hn)
  refine wpList_append_own w hgd s x t ho w.heap.size e i0 (.int k 0) 1 bytes ht hi hz0 hz1 hz2 rfl (by omega) (.slice none 0 0) 0 [] hs ⟨by simp, .inl ⟨rfl, rfl⟩⟩ ad n c (xs.map (Value.int k)) hx (by simp [hr.1]) hsrc (ones_ma _ _) (by omega) (by rw [Nat.zero_add]; exact hb) (Nat.le_refl _) ?_
  intro v' w2 hown hg _
  rw [Nat.zero_add] at hown
  rcases hown.2 with ⟨_, h0⟩ | ⟨g, cap, cur, rfl, hB, hh, hnc, _, hsz, htk⟩
  · omega
  · exact h g cap cur w2 hB hh (by omega) (by simpa using htk) ((Below.refl _ _).grown hg (Nat.le_refl _) (by intro k hk; cases hk))
end
theorem keepAd {k : Nat} {w : World} {o : Obj} (h : Hid (w.heap[k]? = some o)) (n : Nat) : Hid ((w.drewN n).heap[k]? = some o) := h
theorem keepA1 {k : Nat} {w : World} {o : Obj} (h : Hid (w.heap[k]? = some o)) : Hid (w.drew.heap[k]? = some o) := h
theorem newA (w : World) (o : Obj) : Hid ((w.alloc o).heap[w.heap.size]? = some o) := heap_alloc_new w o

end Go.Proofs.YtnigkecpiolgeaaDoor.My
/- Words of this session: what an argument's value looks like, out of the reading's own condition. -/
namespace Go.Proofs.YtnigkecpiolgeaaDoor.My
open Go.ChangeShapes Go.WideShapes Go.ChangeAt Go.RowKit

theorem list_of_cells {k : IntKind} : ∀ (l : List Value), (∀ v ∈ l, ∃ n : Int, v = .int k n ∧ k.has n) → ∃ xs : List Int, l = xs.map (Value.int k) ∧ ∀ x ∈ xs, k.has x
  | [], _ => ⟨[], rfl, fun x hx => by cases hx⟩
  | v :: l, h => by
    obtain ⟨n, rfl, hn⟩ := h v (by simp)
    obtain ⟨xs, rfl, hxs⟩ := list_of_cells l (fun v hv => h v (by simp [hv]))
    exact ⟨n :: xs, rfl, fun x hx => by
      rcases List.mem_cons.1 hx with rfl | hx
      · exact hn
      · exact hxs x hx⟩

/-- An array or a struct whose cells are all whole numbers of one kind. -/
theorem open_nums {P : Program} {w : World} {r : Reach} {base : Nat} {t : TypeId} {v : Value} {d : TypeDesc} {k : IntKind} {n : Nat} {ts : List TypeId} (ht : P.underlying t = some d) (hd : d.isRow = true)
    (hts : P.cellTypes P.depth t = some ts) (hall : ∀ u ∈ ts, P.underlying u = some (.int k)) (hn : P.cellsOf t = n) (h : Value.okWide P w r base t v) : ∃ xs : List Int, xs.length = n ∧ v = .agg (ma k xs) ∧ ∀ x ∈ xs, k.has x := by
  have h' : ∃ cs, v = .agg cs ∧ cs.size = P.cellsOf t ∧ Row.okWide P w r base t cs := by
    unfold Value.okWide at h
    rw [ht] at h
    cases d <;> first | exact h | (simp [TypeDesc.isRow] at hd)
  obtain ⟨cs, rfl, hsz, ts', hts', _, hc⟩ := h'
  rw [hts] at hts'
  injection hts' with hts'
  subst hts'
  obtain ⟨xs, hxs, hb⟩ := list_of_cells (k := k) cs.toList (fun v hv => by
    obtain ⟨i, hi, rfl⟩ := List.mem_iff_getElem.1 hv
    obtain ⟨u, hu, ho⟩ := hc i _ (by rw [← Array.getElem?_toList]; exact List.getElem?_eq_getElem hi)
    have hku := hall u (List.mem_of_getElem? hu)
    generalize cs.toList[i] = x at ho
    unfold Cell.okWide at ho
    rw [hku] at ho
    cases x <;> simp [Cell.ok, hku] at ho
    obtain ⟨rfl, ho⟩ := ho
    exact ⟨_, rfl, ho⟩)
  refine ⟨xs, ?_, ?_, hb⟩
  · have := congrArg List.length hxs
    simp at this
    omega
  · congr 1
    apply Array.ext'
    rw [hxs, ma_toList]

/-- Each cell is of its type. -/
def OkAll (P : Program) (w : World) (r : Reach) (base : Nat) : List TypeId → List Value → Prop
  | [], [] => True
  | t :: ts, c :: cs => Cell.okWide P w r base t c ∧ OkAll P w r base ts cs
  | _, _ => False
theorem OkAll.cons {P : Program} {w : World} {r : Reach} {base : Nat} {t : TypeId} {ts : List TypeId} {cs : List Value} (h : OkAll P w r base (t :: ts) cs) : ∃ c cs', cs = c :: cs' ∧ Cell.okWide P w r base t c ∧ OkAll P w r base ts cs' := by
  cases cs with
  | nil => exact h.elim
  | cons c cs => exact ⟨c, cs, rfl, h.1, h.2⟩
theorem OkAll.nil {P : Program} {w : World} {r : Reach} {base : Nat} {cs : List Value} (h : OkAll P w r base [] cs) : cs = [] := by
  cases cs with
  | nil => rfl
  | cons c cs => exact h.elim
theorem okAll_of {P : Program} {w : World} {r : Reach} {base : Nat} : ∀ (ts : List TypeId) (cs : List Value), cs.length = ts.length → (∀ i (h : i < cs.length) u, ts[i]? = some u → Cell.okWide P w r base u cs[i]) → OkAll P w r base ts cs
  | [], [], _, _ => trivial
  | [], _ :: _, h, _ => by simp at h
  | _ :: _, [], h, _ => by simp at h
  | t :: ts, c :: cs, hl, h => ⟨h 0 (by simp) t rfl, okAll_of ts cs (by simpa using hl) (fun i hi u hu => by
      have := h (i + 1) (by simpa using hi) u (by simpa using hu)
      simpa using this)⟩
/-- A struct or an array: its cells, each of its type. -/
theorem open_row {P : Program} {w : World} {r : Reach} {base : Nat} {t : TypeId} {v : Value} {d : TypeDesc} {ts : List TypeId} (ht : P.underlying t = some d) (hd : d.isRow = true)
    (hts : P.cellTypes P.depth t = some ts) (hn : P.cellsOf t = ts.length) (h : Value.okWide P w r base t v) : ∃ cs : List Value, v = .agg cs.toArray ∧ OkAll P w r base ts cs := by
  have h' : ∃ cs, v = .agg cs ∧ cs.size = P.cellsOf t ∧ Row.okWide P w r base t cs := by
    unfold Value.okWide at h
    rw [ht] at h
    cases d <;> first | exact h | (simp [TypeDesc.isRow] at hd)
  obtain ⟨cs, rfl, hsz, ts', hts', _, hc⟩ := h'
  rw [hts] at hts'
  injection hts' with hts'
  subst hts'
  refine ⟨cs.toList, rfl, okAll_of ts cs.toList (by simp [hsz, hn]) fun i hi u hu => ?_⟩
  obtain ⟨u', hu', ho⟩ := hc i _ (by rw [← Array.getElem?_toList]; exact List.getElem?_eq_getElem hi)
  have hlt : i < ts.length := (List.getElem?_eq_some_iff.1 hu).1
  rw [Nat.mod_eq_of_lt hlt, hu] at hu'
  injection hu' with hu'
  subst hu'
  exact ho
theorem cell_int {P : Program} {w : World} {r : Reach} {base : Nat} {u : TypeId} {v : Value} {k : IntKind} (hu : P.underlying u = some (.int k)) (h : Cell.okWide P w r base u v) : ∃ n : Int, v = .int k n ∧ k.has n := by
  unfold Cell.okWide at h
  rw [hu] at h
  cases v <;> simp [Cell.ok, hu] at h
  obtain ⟨rfl, h⟩ := h
  exact ⟨_, rfl, h⟩
theorem has_u32 {n : Int} (h : IntKind.u32.has n) : 0 ≤ n ∧ n < 4294967296 := by
  have : 0 ≤ n ∧ n ≤ 4294967295 := by simpa [IntKind.has, IntKind.min, IntKind.max, IntKind.signed, IntKind.bits] using h
  omega
theorem has_u8 {n : Int} (h : IntKind.u8.has n) : 0 ≤ n ∧ n < 256 := by
  have : 0 ≤ n ∧ n ≤ 255 := by simpa [IntKind.has, IntKind.min, IntKind.max, IntKind.signed, IntKind.bits] using h
  omega
theorem wf_u32 {n : Int} (h : (Lit.int .u32 n).wf = true) : 0 ≤ n ∧ n < 4294967296 := by
  simp only [Lit.wf, IntKind.min, IntKind.max, IntKind.signed, IntKind.bits, Bool.and_eq_true] at h
  simp at h
  omega
theorem wf_u8 {n : Int} (h : (Lit.int .u8 n).wf = true) : 0 ≤ n ∧ n < 256 := by
  simp only [Lit.wf, IntKind.min, IntKind.max, IntKind.signed, IntKind.bits, Bool.and_eq_true] at h
  simp at h
  omega
theorem wf_i64 {n : Int} (h : (Lit.int .i64 n).wf = true) : -9223372036854775808 ≤ n ∧ n ≤ 9223372036854775807 := by
  simp only [Lit.wf, IntKind.min, IntKind.max, IntKind.signed, IntKind.bits, Bool.and_eq_true, decide_eq_true_eq] at h
  simp at h
  omega
theorem has_i64 {n : Int} (h : IntKind.i64.has n) : -9223372036854775808 ≤ n ∧ n ≤ 9223372036854775807 := by
  simpa [IntKind.has, IntKind.min, IntKind.max, IntKind.signed, IntKind.bits] using h
end Go.Proofs.YtnigkecpiolgeaaDoor.My
/- Words of this session: ranges over a string with the world left abstract; a string's bytes. -/
set_option linter.unusedVariables false
namespace Go.Proofs.YtnigkecpiolgeaaDoor.My
open Go.RowKit
/-- The iterator stands at this place, and nothing else has turned. -/
def World.to (w : World) (g : Nat) (s : ByteArray) (p : Nat) : World := { w with heap := w.heap.setIfInBounds g (.stringIter s p) }
theorem to_heap {w : World} {g : Nat} {s s' : ByteArray} {p p' : Nat} (h : w.heap[g]? = some (.stringIter s p)) : (World.to w g s' p').heap[g]? = some (.stringIter s' p') := by
  have hlt : g < w.heap.size := (Array.getElem?_eq_some_iff.1 h).1
  show (w.heap.setIfInBounds g _)[g]? = _
  rw [Array.getElem?_setIfInBounds_self_of_lt hlt]
theorem to_only (w : World) (g : Nat) (s : ByteArray) (p : Nat) : Only g w (World.to w g s p) :=
  ⟨rfl, rfl, rfl, by simp [World.to], fun k hk => by
    show (w.heap.setIfInBounds g _)[k]? = _
    rw [Array.getElem?_setIfInBounds_ne (Ne.symm hk)]⟩
section
variable {P : Program}
theorem run_next_at {w : World} {g : Nat} {s : ByteArray} {pos : Nat} (ty : TypeId) (hg : w.heap[g]? = some (.stringIter s pos)) (h : pos < s.size) :
    (Instr.next (.pointer (some ⟨g, 0, none⟩)) true ty).run P w = .ok (.tuple #[.bool true, .int .i64 pos, .int .i32 (Utf8.decode s pos).1]) (World.to w g s (pos + (Utf8.decode s pos).2)) := by
  simp only [Instr.next, getObj, setObj, Sem.run_bind, Sem.run, hg, Result.andThen, h, if_true]
  simp [goInt, World.to]
theorem run_next_done {w : World} {g : Nat} {s : ByteArray} {pos : Nat} (ty : TypeId) (hg : w.heap[g]? = some (.stringIter s pos)) (h : ¬ pos < s.size) :
    (Instr.next (.pointer (some ⟨g, 0, none⟩)) true ty).run P w = .ok (.tuple #[.bool false]) w := by
  simp [Instr.next, getObj, Sem.run, hg, h]
end
theorem pos_of {w : World} {g : Nat} {s : ByteArray} {p : Nat} (h : w.heap[g]? = some (.stringIter s p)) : w.iterPos g = p := by simp [World.iterPos, h]
/-- Byte i. -/
def bAt (s : ByteArray) (i : Nat) : Nat := if h : i < s.size then (s[i]'h).toNat else 0
theorem bAt_eq {s : ByteArray} {i : Nat} (h : i < s.size) : (s[i]'h).toNat = bAt s i := by simp [bAt, h]
theorem bAt_lt (s : ByteArray) (i : Nat) : bAt s i < 256 := by
  unfold bAt
  split
  · exact (s[i]).toNat_lt
  · omega
theorem bAt_ext (s : ByteArray) {i j k : Nat} (hj : j ≤ s.size) (hk : i + k < j) : bAt (s.extract i j) k = bAt s (i + k) := by
  unfold bAt
  rw [dif_pos (show k < (s.extract i j).size by rw [ByteArray.size_extract]; omega), dif_pos (by omega), ByteArray.getElem_extract]
theorem toList_len (s : ByteArray) : s.toList.length = s.size := (congrArg List.length (ByteArray.toList_eq s)).trans Array.length_toList
theorem toList_at {s : ByteArray} {i : Nat} (h : i < s.toList.length) : (s.toList[i]).toNat = bAt s i := by
  have h2 : i < s.size := by rw [← toList_len]; exact h
  rw [← bAt_eq h2]
  congr 1
  have : s.toList = s.data.toList := ByteArray.toList_eq s
  simp only [this, Array.getElem_toList]
  rfl
/-- Two texts are one when their lengths and bytes are. -/
theorem bytes_iff (s : ByteArray) (l : List UInt8) : (s.toList == l) = true ↔ s.size = l.length ∧ ∀ i (h : i < l.length), bAt s i = (l[i]).toNat := by
  rw [beq_iff_eq]
  constructor
  · intro h
    subst h
    exact ⟨(toList_len s).symm, fun i hi => (toList_at hi).symm⟩
  · rintro ⟨h1, h2⟩
    apply List.ext_getElem (by rw [toList_len]; exact h1)
    intro i h3 h4
    apply UInt8.toNat_inj.1
    rw [toList_at h3, h2 i h4]
theorem is_two {s : ByteArray} {a b : UInt8} (h : 2 ≤ s.size) : ((s.extract 0 2).toList == [a, b]) = (bAt s 0 == a.toNat && bAt s 1 == b.toNat) := by
  rw [Bool.eq_iff_iff, bytes_iff, Bool.and_eq_true, beq_iff_eq, beq_iff_eq]
  have e0 := bAt_ext s (i := 0) (j := 2) (k := 0) h (by omega)
  have e1 := bAt_ext s (i := 0) (j := 2) (k := 1) h (by omega)
  constructor
  · rintro ⟨_, h2⟩
    have h3 := h2 0 (by simp)
    have h4 := h2 1 (by simp)
    rw [e0] at h3
    rw [e1] at h4
    exact ⟨h3, h4⟩
  · rintro ⟨h2, h3⟩
    refine ⟨by rw [ByteArray.size_extract]; simp; omega, fun i hi => ?_⟩
    match i, hi with
    | 0, _ => rw [e0]; exact h2
    | 1, _ => rw [e1]; exact h3
theorem is_one {s : ByteArray} {a : UInt8} : (s.toList == [a]) = (s.size == 1 && bAt s 0 == a.toNat) := by
  rw [Bool.eq_iff_iff, bytes_iff, Bool.and_eq_true, beq_iff_eq, beq_iff_eq]
  constructor
  · rintro ⟨h1, h2⟩
    exact ⟨h1, h2 0 (by simp)⟩
  · rintro ⟨h2, h3⟩
    refine ⟨h2, fun i hi => ?_⟩
    match i, hi with
    | 0, _ => exact h3
theorem is_none {s : ByteArray} : (s.toList == []) = (s.size == 0) := by
  rw [Bool.eq_iff_iff, bytes_iff, beq_iff_eq]
  exact ⟨fun h => h.1, fun h => ⟨h, fun i hi => by simp at hi⟩⟩
section
variable {P : Program} {ops : Array Oper} {o : Oper} {a : Act} {w : World} {Q : Exit → Act → World → Prop} {rest : List Oper}
theorem iterLow (hw : Region.wanted o (yielded ops a.tmps) = true) (x : Operand) (ho : o.op = .next x true) (g : Nat) (hx : a.eval x = .pointer (some ⟨g, 0, none⟩)) {s : ByteArray} {pos c : Nat} (hg : w.heap[g]? = some (.stringIter s pos)) (h : pos < s.size) (hc : bAt s pos = c) (h1 : c < 128)
    (hk : ∀ w2 : World, w2.heap[g]? = some (.stringIter s (pos + 1)) → Only g w w2 → wpList P ops Q rest (a.put o.dst (.tuple #[.bool true, .int .i64 pos, .int .i32 c])) w2) : wpList P ops Q (o :: rest) a w :=
  wpList_step fun K hK => by
    subst hc
    rw [if_pos hw]
    unfold Oper.wp execOp
    have hd := decode_ascii s pos h (by rw [bAt_eq h]; exact h1)
    have hr := run_next_at (P := P) o.type hg h
    rw [hd, bAt_eq h] at hr
    simp only [ho, hx, Sem.run_bind, Sem.run_pure, hr, Result.andThen_ok]
    exact hK _ _ (hk _ (to_heap hg) (to_only _ _ _ _))
theorem iterHigh (hw : Region.wanted o (yielded ops a.tmps) = true) (x : Operand) (ho : o.op = .next x true) (g : Nat) (hx : a.eval x = .pointer (some ⟨g, 0, none⟩)) {s : ByteArray} {pos : Nat} (hg : w.heap[g]? = some (.stringIter s pos)) (h : pos < s.size) (h1 : 128 ≤ bAt s pos)
    (hk : ∀ (r d : Nat) (w2 : World), 128 ≤ r → r ≤ 2147483647 → Utf8.decode s pos = (r, d) → 1 ≤ d → w2.heap[g]? = some (.stringIter s (pos + d)) → Only g w w2 → wpList P ops Q rest (a.put o.dst (.tuple #[.bool true, .int .i64 pos, .int .i32 r])) w2) : wpList P ops Q (o :: rest) a w :=
  wpList_step fun K hK => by
    rw [if_pos hw]
    unfold Oper.wp execOp
    have hd := decode_high s pos h (by rw [bAt_eq h]; exact h1)
    have hr := run_next_at (P := P) o.type hg h
    have hl := decode_le s pos
    obtain ⟨⟨r, d⟩, hp⟩ : ∃ p, Utf8.decode s pos = p := ⟨_, rfl⟩
    rw [hp] at hr hd hl
    simp only [ho, hx, Sem.run_bind, Sem.run_pure, hr, Result.andThen_ok]
    exact hK _ _ (hk r d _ hd.1 hl hp hd.2 (to_heap hg) (to_only _ _ _ _))
theorem iterEnd (hw : Region.wanted o (yielded ops a.tmps) = true) (x : Operand) (ho : o.op = .next x true) (g : Nat) (hx : a.eval x = .pointer (some ⟨g, 0, none⟩)) {s : ByteArray} {pos : Nat} (hg : w.heap[g]? = some (.stringIter s pos)) (h : ¬ pos < s.size)
    (hk : wpList P ops Q rest (a.put o.dst (.tuple #[.bool false])) w) : wpList P ops Q (o :: rest) a w :=
  wpList_step fun K hK => by
    rw [if_pos hw]
    unfold Oper.wp execOp
    simp only [ho, hx, Sem.run_bind, Sem.run_pure, run_next_done _ hg h, Result.andThen_ok]
    exact hK _ _ hk
end
end Go.Proofs.YtnigkecpiolgeaaDoor.My
/- Words of this session: strings made of bytes: one byte looked up, a slice of bytes turned into a string, two strings joined; the world left abstract. -/
set_option linter.unusedVariables false
namespace Go.Proofs.YtnigkecpiolgeaaDoor.My
open Go.RowKit
section
variable {P : Program} {ops : Array Oper} {o : Oper} {a : Act} {w : World} {Q : Exit → Act → World → Prop} {rest : List Oper}
theorem strIndex (hw : Region.wanted o (yielded ops a.tmps) = true) (t : TypeId) (x y : Operand) (ho : o.op = .index t x y) (ht : P.underlying t = some .string) (s : ByteArray) (hx : a.eval x = .string s) (k : IntKind) (i : Int) (hy : a.eval y = .int k i) (j c : Nat) (hi : i = (j : Int)) (hj : j < s.size) (hc : bAt s j = c)
    (hk : wpList P ops Q rest (a.put o.dst (.int .u8 c)) w) : wpList P ops Q (o :: rest) a w :=
  wpList_step fun K hK => by
    subst hi hc
    rw [if_pos hw]
    unfold Oper.wp execOp
    have hr := run_index_string (P := P) (w := w) t s k (j : Int) ht
    rw [dif_pos (by omega)] at hr
    simp only [Int.toNat_natCast, bAt_eq hj] at hr
    simp only [ho, hx, hy, Sem.run_bind, Sem.run_pure, hr, Result.andThen_ok]
    exact hK _ _ hk
theorem strBack (hw : Region.wanted o (yielded ops a.tmps) = true) (src dst e : TypeId) (x : Operand) (ho : o.op = .convert src dst x) (hs : P.underlying src = some (.slice e)) (he : P.underlying e = some (.int .u8)) (hd : P.underlying dst = some .string)
    (g off n cap : Nat) (hx : a.eval x = .slice (some ⟨g, off, none⟩) n cap) (l : List UInt8) (hl : l.length = n) {t : TypeId} {cur : Array Value} {fr : Nat × Nat} (hg : w.heap[g]? = some (.cells cur t fr)) (hc : ∀ j (hj : j < l.length), cur[off + j]? = some (.int .u8 (l[j].toNat : Int)))
    (hk : wpList P ops Q rest (a.put o.dst (.string ⟨l.toArray⟩)) w) : wpList P ops Q (o :: rest) a w :=
  wpList_step fun K hK => by
    subst hl
    rw [if_pos hw]
    unfold Oper.wp execOp
    have hr := run_convert_bytes_back (P := P) w src dst e ⟨g, off, none⟩ cap l hs he hd (fun j hj => by
      have ha : (⟨g, off, none⟩ : Addr).add j = ⟨g, off + j, none⟩ := by unfold Addr.add; split <;> simp_all
      rw [ha, cell_of_row w g (off + j) _ _ _ hg]
      exact hc j hj)
    simp only [ho, hx, Sem.run_bind, Sem.run_pure, hr, Result.andThen_ok]
    exact hK _ _ hk
theorem strAdd (hw : Region.wanted o (yielded ops a.tmps) = true) (t : TypeId) (x y : Operand) (u : TypeId) (ho : o.op = .binOp .add t x y u) (s r q : ByteArray) (hx : a.eval x = .string s) (hy : a.eval y = .string r) (h : s.size + r.size ≤ 9223372036854775807) (hq : s ++ r = q)
    (hk : wpList P ops Q rest (a.put o.dst (.string q)) w) : wpList P ops Q (o :: rest) a w :=
  wpList_step fun K hK => by
    subst hq
    rw [if_pos hw]
    unfold Oper.wp execOp
    simp only [ho, hx, hy, eqGuard, ite_self, Sem.run_bind, Sem.run_pure, Result.andThen_ok, binOp_string_add, run_string_add_sum w s r h]
    exact hK _ _ hk
theorem arrSlice (hw : Region.wanted o (yielded ops a.tmps) = true) (t : TypeId) (x lo : Operand) (ho : o.op = .slice t x (some lo) none none) (n : Nat) (e : TypeId) (ht : P.underlying t = some (.array n e)) (hs : (P.info? e).map (·.size) = some 1) (g : Nat) (hx : a.eval x = .pointer (some ⟨g, 0, none⟩)) (k : IntKind) (i : Int) (hy : a.eval lo = .int k i) (l : Nat) (hi : i = (l : Int)) (hl : l < n)
    (hk : wpList P ops Q rest (a.put o.dst (.slice (some ⟨g, l, none⟩) (n - l) (n - l))) w) : wpList P ops Q (o :: rest) a w :=
  wpList_step fun K hK => by
    subst hi
    rw [if_pos hw]
    unfold Oper.wp execOp
    have e1 : P.arrayLen t = n := by simp [Program.arrayLen, ht]
    have e2 : P.elem t = e := by simp [Program.elem, ht]
    have hr := run_sliceAt_array_l (P := P) w t ⟨g, 0, none⟩ (by rw [e1, e2]; exact ht) k (l : Int) (by omega) (by rw [e1]; omega)
    have hz : (sizeOf (P.elem t)).run P w = .ok 1 w := by
      rw [e2]
      cases hq : P.info? e with
      | none => simp [hq] at hs
      | some q =>
        have : q.size = 1 := by simpa [hq] using hs
        simp [sizeOf, typeInfo, hq, this]
    have hv : slicedAt ⟨g, 0, none⟩ ((l : Int)).toNat n n 1 = .slice (some ⟨g, l, none⟩) (n - l) (n - l) := by
      simp only [slicedAt, Int.toNat_natCast, if_neg (show ¬ n = l by omega)]
      congr 2
      simp [Addr.add, eq_comm]
    rw [e1, hz, Result.andThen_ok, hv] at hr
    simp only [ho, hx, hy, Option.map_some, Option.map_none, Sem.run_bind, Sem.run_pure, hr, Result.andThen_ok]
    exact hK _ _ hk
theorem arrAll (hw : Region.wanted o (yielded ops a.tmps) = true) (t : TypeId) (x : Operand) (ho : o.op = .slice t x none none none) (n : Nat) (e : TypeId) (ht : P.underlying t = some (.array n e)) (hs : (P.info? e).map (·.size) = some 1) (g : Nat) (hx : a.eval x = .pointer (some ⟨g, 0, none⟩)) (hn : 0 < n)
    (hk : wpList P ops Q rest (a.put o.dst (.slice (some ⟨g, 0, none⟩) n n)) w) : wpList P ops Q (o :: rest) a w :=
  wpList_step fun K hK => by
    rw [if_pos hw]
    unfold Oper.wp execOp
    have e1 : P.arrayLen t = n := by simp [Program.arrayLen, ht]
    have e2 : P.elem t = e := by simp [Program.elem, ht]
    have hr := run_sliceAt_array_all (P := P) w t ⟨g, 0, none⟩ (by rw [e1, e2]; exact ht)
    have hz : (sizeOf (P.elem t)).run P w = .ok 1 w := by
      rw [e2]
      cases hq : P.info? e with
      | none => simp [hq] at hs
      | some q =>
        have : q.size = 1 := by simpa [hq] using hs
        simp [sizeOf, typeInfo, hq, this]
    have hv : slicedAt ⟨g, 0, none⟩ 0 n n 1 = .slice (some ⟨g, 0, none⟩) n n := by
      simp only [slicedAt, if_neg (show ¬ n = 0 by omega), Nat.sub_zero]
      congr 2
    rw [e1, hz, Result.andThen_ok, hv] at hr
    simp only [ho, hx, Option.map_none, Sem.run_bind, Sem.run_pure, hr, Result.andThen_ok]
    exact hK _ _ hk
end
/-- The string of these bytes. -/
def bs (l : List UInt8) : ByteArray := ⟨l.toArray⟩
theorem bs_size (l : List UInt8) : (bs l).size = l.length := by show l.toArray.size = _; simp
theorem bs_add (l m : List UInt8) : bs l ++ bs m = bs (l ++ m) := ByteArray.mk_append_mk l m
theorem bs_at {l : List UInt8} {i : Nat} (h : i < l.length) : bAt (bs l) i = (l[i]).toNat := by
  have h2 : i < (bs l).size := by rw [bs_size]; exact h
  rw [← bAt_eq h2]
  rfl
theorem set_drop {xs : List Int} {i : Nat} (h : i < xs.length) (v : Int) : (xs.set i v).drop i = v :: xs.drop (i + 1) := by
  rw [List.drop_eq_getElem_cons (by simpa using h)]
  simp [List.drop_set]
end Go.Proofs.YtnigkecpiolgeaaDoor.My
/- Words of this session: a slice that the call makes, one element appended, the world left abstract; what a rune of several bytes steps over. -/
set_option linter.unusedVariables false
namespace Go.Proofs.YtnigkecpiolgeaaDoor.My
open Go.RowKit
section
variable {P : Program} {ops : Array Oper} {o : Oper} {a : Act} {w : World} {Q : Exit → Act → World → Prop} {rest : List Oper}
theorem appOne (hgd : o.guard = none) (s x : Operand) (t e : TypeId) (z : Value) (bytes : Nat) (ho : o.op = .call { callee := .builtin .append, args := #[s, x], argTypes := #[t, t] })
    (ht : P.underlying t = some (.slice e)) (hinfo : (P.info? e).map (fun i => (i.zero, i.size, i.bytes)) = some (some z, 1, bytes)) (hzc : z.cells.size = 1)
    (B : Nat) (v : Value) (n : Nat) (xs : List Value) (hs : a.eval s = v) (hown : w.ownsRow B e 1 v n xs) (u : Value) (hu : u.oneCell' = true) {tt : TypeId} (c : Nat)
    (hx : a.eval x = .slice (some ⟨w.heap.size, 0, none⟩) 1 c) (h63 : n + 1 ≤ maxLen) (hb : (n + 1) * bytes ≤ 140737488355328) (hB : B ≤ w.heap.size)
    (h : ∀ (v' : Value) (w2 : World), w2.ownsRow B e 1 v' (n + 1) (xs ++ [u]) → Below B w w2 → wpList P ops Q rest (a.put o.dst v') w2) :
    wpList P ops Q (o :: rest) a (w.alloc (.cells #[u] tt)) := by
  obtain ⟨i0, hi, hzz⟩ := Option.map_eq_some_iff.1 hinfo
  simp only [Prod.mk.injEq] at hzz
  obtain ⟨hz0, hz1, hz2⟩ := hzz
  have hB2 : B ≤ (w.alloc (.cells #[u] tt)).heap.size := by simp; omega
  refine wpList_append_own _ hgd s x t ho B e i0 z 1 bytes ht hi hz0 hz1 hz2 hzc (by omega) v n xs hs (hown.alloc _) ⟨w.heap.size, 0, none⟩ 1 c [u] hx rfl ?_ ?_ h63 hb hB2 ?_
  · intro j q hj
    match j, hj with
    | 0, hj =>
      have : u = q := by simpa using hj
      subst this
      have ha : (⟨w.heap.size, 0, none⟩ : Addr).add 0 = ⟨w.heap.size, 0, none⟩ := by simp [Addr.add]
      rw [ha, cell_of_row _ w.heap.size 0 _ _ _ (heap_alloc_new w _)]
      rfl
  · intro q hq
    have : q = u := by simpa using hq
    rw [this]; exact hu
  · intro v' w2 h1 h2 _
    refine h v' w2 h1 (((Below.refl B w).alloc hB _).grown h2 hB2 ?_)
    intro k hk
    rcases hown.2 with ⟨rfl, _⟩ | ⟨g, cap, cur, rfl, hg, _⟩
    · cases hk
    · simp only [Value.ownBlock, Option.some.injEq] at hk
      omega
end
theorem keepBg {B B' : Nat} {w0 w w' : World} (h : Hid (Below B w0 w ∧ B ≤ w.heap.size)) (hB : B ≤ B') (hb : Below B' w w') : Hid (Below B w0 w' ∧ B ≤ w'.heap.size) :=
  ⟨h.out.1.trans ⟨hb.os, hb.tape, hb.output, hb.size, fun i hi => hb.block i (by omega)⟩, Nat.le_trans h.out.2 hb.size⟩
theorem keepAg {B g : Nat} {w w' : World} {o : Obj} (h : Hid (w.heap[g]? = some o)) (hg : g < B) (hb : Below B w w') : Hid (w'.heap[g]? = some o) := (hb.block g hg).trans h.out
theorem own_nil (w : World) (B : Nat) (e : TypeId) : w.ownsRow B e 1 (.slice none 0 0) 0 [] := ⟨rfl, .inl ⟨rfl, rfl⟩⟩
theorem own_only {w w' : World} {B e g n : Nat} {v : Value} {xs : List Value} (h : w.ownsRow B e 1 v n xs) (hg : g < B) (ho : Only g w w') : w'.ownsRow B e 1 v n xs := by
  refine ⟨h.1, ?_⟩
  rcases h.2 with h | ⟨k, cap, cur, h1, h2, h3, h4⟩
  · exact .inl h
  · exact .inr ⟨k, cap, cur, h1, h2, (ho.block k (by omega)).trans h3, h4⟩
theorem own_below {w w' : World} {B e n : Nat} {v : Value} {xs : List Value} (h : w.ownsRow B e 1 v n xs) (hb : Below w.heap.size w w') : w'.ownsRow B e 1 v n xs := by
  refine ⟨h.1, ?_⟩
  rcases h.2 with h | ⟨k, cap, cur, h1, h2, h3, h4⟩
  · exact .inl h
  · exact .inr ⟨k, cap, cur, h1, h2, (hb.block k (Array.getElem?_eq_some_iff.1 h3).1).trans h3, h4⟩
theorem own_weak {w : World} {B B' e n : Nat} {v : Value} {xs : List Value} (h : w.ownsRow B e 1 v n xs) (hB : B' ≤ B) : w.ownsRow B' e 1 v n xs := by
  refine ⟨h.1, ?_⟩
  rcases h.2 with h | ⟨k, cap, cur, h1, h2, h3⟩
  · exact .inl h
  · exact .inr ⟨k, cap, cur, h1, by omega, h3⟩
theorem own_val {w : World} {B e n : Nat} {v : Value} {xs : List Value} (h : w.ownsRow B e 1 v n xs) : ∃ A c, v = .slice A n c := by
  rcases h.2 with ⟨h, h2⟩ | ⟨k, cap, cur, h1, h2⟩
  · exact ⟨none, 0, by rw [h, h2]⟩
  · exact ⟨_, _, h1⟩
/-- A rune that begins with a high byte steps over high bytes alone, and not beyond the end. -/
theorem decode_over {s : ByteArray} {pos r d : Nat} (h : pos < s.size) (h1 : 128 ≤ bAt s pos) (hd : Utf8.decode s pos = (r, d)) : pos + d ≤ s.size ∧ ∀ k, k < d → 128 ≤ bAt s (pos + k) := by
  have hg : ∀ k, pos + k < s.size → (s.get! (pos + k)).toNat = bAt s (pos + k) := fun k hk => by
    rw [← bAt_eq hk]
    congr 1
    show s.get! (pos + k) = _
    simp [ByteArray.get!, getElem!_pos, hk]
    rfl
  have h0 := hg 0 h
  simp only [Nat.add_zero] at h0
  have key : ∀ m, (pos + m ≤ s.size ∧ ∀ k, k < m → 128 ≤ bAt s (pos + k)) → (∃ r', (r', m) = (r, d)) → pos + d ≤ s.size ∧ ∀ k, k < d → 128 ≤ bAt s (pos + k) := fun m hm ⟨r', he⟩ => by
    injection he with _ he
    subst he
    exact hm
  have one : pos + 1 ≤ s.size ∧ ∀ k, k < 1 → 128 ≤ bAt s (pos + k) := ⟨h, fun k hk => by
    have : k = 0 := by omega
    subst this
    exact h1⟩
  have cont : ∀ k, (decide (pos + k < s.size) && (s.get! (pos + k)).toNat / 64 == 2) = true → pos + k < s.size ∧ 128 ≤ bAt s (pos + k) := fun k hk => by
    simp only [Bool.and_eq_true, decide_eq_true_eq, beq_iff_eq] at hk
    have := hg k hk.1
    exact ⟨hk.1, by omega⟩
  have more : ∀ m, 1 ≤ m → (pos + m ≤ s.size ∧ ∀ k, k < m → 128 ≤ bAt s (pos + k)) → (decide (pos + m < s.size) && (s.get! (pos + m)).toNat / 64 == 2) = true → pos + (m + 1) ≤ s.size ∧ ∀ k, k < m + 1 → 128 ≤ bAt s (pos + k) := fun m _ hm hc => by
    obtain ⟨c1, c2⟩ := cont m hc
    refine ⟨by omega, fun k hk => ?_⟩
    by_cases q : k < m
    · exact hm.2 k q
    · rw [show k = m by omega]; exact c2
  clear hg h0 key cont
  simp only [Utf8.decode] at hd
  repeat' split at hd
  all_goals obtain ⟨rfl, rfl⟩ := Prod.mk.inj hd
  all_goals first
    | exact one
    | (rename_i q _; simp only [Bool.and_eq_true] at q; exact more 1 (by decide) one (by simpa using q.2))
    | (rename_i q _; simp only [Bool.and_eq_true] at q; exact more 2 (by decide) (more 1 (by decide) one (by simpa using q.1.2)) (by simpa using q.2))
    | (rename_i q _; simp only [Bool.and_eq_true] at q; exact more 3 (by decide) (more 2 (by decide) (more 1 (by decide) one (by simpa using q.1.1.2)) (by simpa using q.1.2)) (by simpa using q.2))
end Go.Proofs.YtnigkecpiolgeaaDoor.My
/- Words: a region that draws its order, loads what it stores behind its call: the condition S is held as far as the call (number c) alone. -/
namespace Go.Proofs.YtnigkecpiolgeaaDoor.My
open Go.RowKit
section
variable {P : Program} {ops : Array Oper} {Q : Exit → Act → World → Prop} {md : Region.Mode} {S : World → Prop}
def wpAnyC (P : Program) (md : Region.Mode) (ops : Array Oper) (Q : Exit → Act → World → Prop) (S : World → Prop) (c : Nat) : Nat → Array Bool → Act → World → Prop
  | 0, listed, a, w => Region.ready md ops listed = [] ∧ Q .normal a w
  | fuel + 1, listed, a, w =>
    (Region.ready md ops listed = [] → Q .normal a w) ∧
    ∀ i ∈ Region.ready md ops listed, wpOp P ops Q i (fun a' w' => ((listed.setIfInBounds i true).getD c false = true ∨ S w') ∧ wpAnyC P md ops Q S c fuel (listed.setIfInBounds i true) a' w') a w
theorem wpAny_of_C {c : Nat} : ∀ (fuel : Nat) (listed : Array Bool) (a : Act) (w : World), wpAnyC P md ops Q S c fuel listed a w → wpAny P md ops Q fuel listed a w
  | 0, _, _, _, h => h
  | fuel + 1, _, _, _, h => ⟨h.1, fun i hi => wpOp_mono (fun a' w' h' => wpAny_of_C fuel _ a' w' h'.2) (h.2 i hi)⟩
/-- An operation on which the call waits. -/
theorem wpAnyC_firstS {c i : Nat} {oi oc : Oper} {v : Value} (hi : ops[i]? = some oi) (hoc : ops[c]? = some oc) (hdep : ∃ e ∈ oc.after, Region.binds md e = true ∧ e.on = i) (hci : c ≠ i) (hsel : ∀ (j : Nat) (o : Oper) cs b, ops[j]? = some o → o.op ≠ .select cs b)
    (hQ : ∀ c a w, Q (.panic c) (a.put oi.dst v) w → Q (.panic c) a w) :
    ∀ (fuel : Nat) (listed : Array Bool) (a : Act) (w : World),
      (∀ j oj, ops[j]? = some oj → j ≠ i → listed.getD j true = false → (∀ e ∈ oj.after, Region.binds md e = true → e.on ≠ i) → oi.apart ops oj = true) →
      i ∈ Region.ready md ops listed → listed.getD c false = false → YieldsIf P ops S oi v a → S w →
      wpAnyC P md ops Q S c fuel (listed.setIfInBounds i true) (a.put oi.dst v) w → wpAnyC P md ops Q S c (fuel + 1) listed a w := by
  intro fuel
  induction fuel with
  | zero =>
    intro listed a w _ hr hc hy hS H
    refine ⟨fun h => (by rw [h] at hr; cases hr), fun j hj => ?_⟩
    by_cases hji : j = i
    · subst hji; exact hy.wpOp hi hS ⟨.inr hS, H⟩
    · have := ready_mono hj hji
      rw [H.1] at this
      cases this
  | succ fuel ih =>
    intro listed a w hfree hr hc hy hS H
    refine ⟨fun h => (by rw [h] at hr; cases hr), fun j hj => ?_⟩
    by_cases hji : j = i
    · subst hji; exact hy.wpOp hi hS ⟨.inr hS, H⟩
    · have h1 := H.2 j (ready_mono hj hji)
      obtain ⟨hjun, oj, hoj, hall⟩ := mem_ready.1 hj
      have hnot : ∀ e ∈ oj.after, Region.binds md e = true → e.on ≠ i := fun e he hb heq => by
        have h1 := hall e he hb
        have h0 := (mem_ready.1 hr).1
        rw [heq] at h1
        rcases Nat.lt_or_ge i listed.size with h' | h'
        · simp [h'] at h0 h1; rw [h0] at h1; cases h1
        · simp [Array.getElem?_eq_none h'] at h1
      have hjc : j ≠ c := fun he => by
        subst he
        rw [hoc] at hoj
        injection hoj with hoj
        subst hoj
        obtain ⟨e, he, hb, hon⟩ := hdep
        exact hnot e he hb hon
      have hc2 : (listed.setIfInBounds j true).getD c false = false := by rw [getD_set_ne false hjc]; exact hc
      have hc3 : ((listed.setIfInBounds i true).setIfInBounds j true).getD c false = false := by rw [getD_set_ne false hjc, getD_set_ne false (Ne.symm hci)]; exact hc
      have h2 := wpOp_putIf hoj (hfree j oj hoj hji hjun hnot) (fun cs b => hsel i oi cs b hi) (fun cs b => hsel j oj cs b hoj) hQ hy h1
      have hfree' : ∀ k ok, ops[k]? = some ok → k ≠ i → (listed.setIfInBounds j true).getD k true = false →
          (∀ e ∈ ok.after, Region.binds md e = true → e.on ≠ i) → oi.apart ops ok = true := fun k ok hk hki hun hno => by
        refine hfree k ok hk hki ?_ hno
        by_cases hjk : j = k
        · subst hjk; exact hjun
        · rw [getD_set_ne true hjk] at hun; exact hun
      refine wpOp_mono (fun a' w' h3 => ?_) h2
      have hS' : S w' := h3.2.1.resolve_left (by rw [hc3]; decide)
      refine ⟨.inr hS', ih (listed.setIfInBounds j true) a' w' hfree' (ready_mono hr (Ne.symm hji)) hc2 h3.1 hS' ?_⟩
      rw [Array.setIfInBounds_comm _ _ hji]
      exact h3.2.2
/-- An operation that yields in whatever world. -/
theorem wpAnyC_firstA {c i : Nat} {oi : Oper} {v : Value} (hi : ops[i]? = some oi) (hci : c ≠ i) (hsel : ∀ (j : Nat) (o : Oper) cs b, ops[j]? = some o → o.op ≠ .select cs b)
    (hQ : ∀ c a w, Q (.panic c) (a.put oi.dst v) w → Q (.panic c) a w) :
    ∀ (fuel : Nat) (listed : Array Bool) (a : Act) (w : World),
      (∀ j oj, ops[j]? = some oj → j ≠ i → listed.getD j true = false → (∀ e ∈ oj.after, Region.binds md e = true → e.on ≠ i) → oi.apart ops oj = true) →
      i ∈ Region.ready md ops listed → YieldsIf P ops (fun _ => True) oi v a → (listed.getD c false = true ∨ S w) →
      wpAnyC P md ops Q S c fuel (listed.setIfInBounds i true) (a.put oi.dst v) w → wpAnyC P md ops Q S c (fuel + 1) listed a w := by
  intro fuel
  induction fuel with
  | zero =>
    intro listed a w _ hr hy hS H
    refine ⟨fun h => (by rw [h] at hr; cases hr), fun j hj => ?_⟩
    by_cases hji : j = i
    · subst hji; exact hy.wpOp hi trivial ⟨by rw [getD_set_ne false (Ne.symm hci)]; exact hS, H⟩
    · have := ready_mono hj hji
      rw [H.1] at this
      cases this
  | succ fuel ih =>
    intro listed a w hfree hr hy hS H
    refine ⟨fun h => (by rw [h] at hr; cases hr), fun j hj => ?_⟩
    by_cases hji : j = i
    · subst hji; exact hy.wpOp hi trivial ⟨by rw [getD_set_ne false (Ne.symm hci)]; exact hS, H⟩
    · have h1 := H.2 j (ready_mono hj hji)
      obtain ⟨hjun, oj, hoj, hall⟩ := mem_ready.1 hj
      have hnot : ∀ e ∈ oj.after, Region.binds md e = true → e.on ≠ i := fun e he hb heq => by
        have h1 := hall e he hb
        have h0 := (mem_ready.1 hr).1
        rw [heq] at h1
        rcases Nat.lt_or_ge i listed.size with h' | h'
        · simp [h'] at h0 h1; rw [h0] at h1; cases h1
        · simp [Array.getElem?_eq_none h'] at h1
      have h2 := wpOp_putIf hoj (hfree j oj hoj hji hjun hnot) (fun cs b => hsel i oi cs b hi) (fun cs b => hsel j oj cs b hoj) hQ hy h1
      have hfree' : ∀ k ok, ops[k]? = some ok → k ≠ i → (listed.setIfInBounds j true).getD k true = false →
          (∀ e ∈ ok.after, Region.binds md e = true → e.on ≠ i) → oi.apart ops ok = true := fun k ok hk hki hun hno => by
        refine hfree k ok hk hki ?_ hno
        by_cases hjk : j = k
        · subst hjk; exact hjun
        · rw [getD_set_ne true hjk] at hun; exact hun
      refine wpOp_mono (fun a' w' h3 => ?_) h2
      have hS' : (listed.setIfInBounds j true).getD c false = true ∨ S w' := by
        rcases h3.2.1 with h | h
        · refine .inl ?_
          rw [Array.setIfInBounds_comm _ _ (Ne.symm hji), getD_set_ne false (Ne.symm hci)] at h
          exact h
        · exact .inr h
      refine ⟨hS', ih (listed.setIfInBounds j true) a' w' hfree' (ready_mono hr (Ne.symm hji)) h3.1 hS' ?_⟩
      rw [Array.setIfInBounds_comm _ _ hji]
      exact h3.2.2
theorem rgStartC {id n : Nat} {a : Act} {w : World} (c : Nat) (l : Array Bool) (hm : P.follows .mixedOrders = true) (hn : ops.size = n) (hl : Array.replicate n false = l) (hS : S w.drew)
    (h : Hid (S w.drew) → wpAnyC P .any ops Q S c n l a w.drew) : (Code.region id ops true).wp P Q a w := by
  subst hn; subst hl
  exact wp_region_any hm (wpAny_of_C _ _ _ _ (h hS))
def depOk (md : Region.Mode) (ops : Array Oper) (c i : Nat) : Bool := match ops[c]? with | some oc => oc.after.any (fun e => Region.binds md e && e.on == i) | none => false
theorem depOk_spec {c i : Nat} (h : depOk md ops c i = true) : ∃ oc, ops[c]? = some oc ∧ ∃ e ∈ oc.after, Region.binds md e = true ∧ e.on = i := by
  unfold depOk at h
  split at h
  · rename_i oc hoc
    rw [Array.any_eq_true] at h
    obtain ⟨k, hk, h2⟩ := h
    rw [Bool.and_eq_true, beq_iff_eq] at h2
    exact ⟨oc, hoc, oc.after[k], Array.getElem_mem hk, h2⟩
  · cases h
theorem rgTakeS {c i : Nat} {N : Option Tmp} {oi : Oper} {v : Value} {fuel : Nat} {l : Array Bool} {a : Act} {w : World} (l' : Array Bool) (hi : ops[i]? = some oi) (hN : oi.dst = N) (hc : takeOk md ops l l' i = true) (hd : (depOk md ops c i && (!(l.getD c false) && decide (c ≠ i))) = true)
    (hQ : ∀ c a w, Q (.panic c) (a.put N v) w → Q (.panic c) a w) (hy : YieldsIf P ops S oi v a) (hS : Hid (S w))
    (h : wpAnyC P md ops Q S c fuel l' (a.put N v) w) : wpAnyC P md ops Q S c (fuel + 1) l a w := by
  unfold takeOk at hc
  rw [Bool.and_eq_true, Bool.and_eq_true, Bool.and_eq_true, decide_eq_true_eq] at hc
  obtain ⟨h1, h2, h3, rfl⟩ := hc
  rw [Bool.and_eq_true, Bool.and_eq_true, decide_eq_true_eq, Bool.not_eq_true'] at hd
  obtain ⟨d1, d2, d3⟩ := hd
  obtain ⟨oc, hoc, hdep⟩ := depOk_spec d1
  subst hN
  exact wpAnyC_firstS hi hoc hdep d3 (Region.noSelect_spec h1) hQ fuel l a w (Region.free_spec hi h2) (by simpa using h3) d2 hy hS.out h
theorem rgTakeA {c i : Nat} {N : Option Tmp} {oi : Oper} {v : Value} {fuel : Nat} {l : Array Bool} {a : Act} {w : World} (l' : Array Bool) (hi : ops[i]? = some oi) (hN : oi.dst = N) (hc : takeOk md ops l l' i = true) (hd : decide (c ≠ i) = true)
    (hQ : ∀ c a w, Q (.panic c) (a.put N v) w → Q (.panic c) a w) (hy : YieldsIf P ops (fun _ => True) oi v a) (hS : l.getD c false = true ∨ S w)
    (h : wpAnyC P md ops Q S c fuel l' (a.put N v) w) : wpAnyC P md ops Q S c (fuel + 1) l a w := by
  unfold takeOk at hc
  rw [Bool.and_eq_true, Bool.and_eq_true, Bool.and_eq_true, decide_eq_true_eq] at hc
  obtain ⟨h1, h2, h3, rfl⟩ := hc
  rw [decide_eq_true_eq] at hd
  subst hN
  exact wpAnyC_firstA hi hd (Region.noSelect_spec h1) hQ fuel l a w (Region.free_spec hi h2) (by simpa using h3) hy hS h
/-- Behind the call nothing is held any more. -/
theorem rgCallC {c i : Nat} {N : Option Tmp} {oi : Oper} {fuel : Nat} {l : Array Bool} {a : Act} {w : World} (l' : Array Bool) (hi : ops[i]? = some oi) (hN : oi.dst = N) (hc : callOk md ops l l' i = true) (hl : l'.getD c false = true)
    (h : ∀ K' : Act → World → Prop, Shut (∀ a w, wpAnyC P md ops Q S c fuel l' a w → K' a w) → if Region.wanted oi (yielded ops a.tmps) = true then Oper.wp P oi a w K' Q else K' (a.put N undef) w) :
    wpAnyC P md ops Q S c (fuel + 1) l a w := by
  unfold callOk at hc
  rw [Bool.and_eq_true, decide_eq_true_eq, decide_eq_true_eq] at hc
  obtain ⟨h1, rfl⟩ := hc
  subst hN
  refine ⟨fun h0 => (by rw [h1] at h0; cases h0), fun j hj => ?_⟩
  rw [h1] at hj
  have hji : j = i := by simpa using hj
  subst hji
  exact wpOp_step hi (fun K' hK => h K' (fun a w hW => hK a w ⟨.inl hl, hW⟩))
theorem rgDoneC {c : Nat} {l : Array Bool} {a : Act} {w : World} (hr : decide (Region.ready md ops l = []) = true) (h : Q .normal a w) : ∀ fuel, wpAnyC P md ops Q S c fuel l a w
  | 0 => ⟨of_decide_eq_true hr, h⟩
  | _ + 1 => ⟨fun _ => h, by rw [of_decide_eq_true hr]; simp⟩
end
end Go.Proofs.YtnigkecpiolgeaaDoor.My
/- Walks: the eight digits of base 16 of a word, both sides; the value of a digit; slices of texts. -/
set_option linter.unusedVariables false
namespace Go.Proofs.YtnigkecpiolgeaaDoor.My
open Go.RowKit
/-- The value of a digit of base 16; below 0: none. -/
def hv (c : Int) : Int := if 48 ≤ c ∧ c ≤ 57 then c - 48 else if 97 ≤ c ∧ c ≤ 102 then c - 87 else -1
theorem hv_lt (c : Int) : hv c < 16 := by unfold hv; split; omega; split <;> omega
theorem value_any (c v : Int) (w : World) (c0 : 0 ≤ c) (c1 : c ≤ 255) (hc : hv c = v) : Calls Tryd.prog 52 #[.int .u8 c] w fun e w' => e = .returned (.int .i64 v) ∧ w = w' := by
  unfold hv at hc
  rcases (show (48 ≤ c ∧ c ≤ 57 ∧ v = c - 48) ∨ (97 ≤ c ∧ c ≤ 102 ∧ v = c - 87) ∨ (c < 48 ∧ v = -1) ∨ (57 < c ∧ c < 97 ∧ v = -1) ∨ (102 < c ∧ v = -1) by split at hc; omega; split at hc <;> omega) with ⟨q, r, rfl⟩ | ⟨q, r, rfl⟩ | ⟨q, rfl⟩ | ⟨q, r, rfl⟩ | ⟨q, rfl⟩
  all_goals
    clear hc
    go_enter Tryd.func52, Tryd.ntmps52
    go_wp2
    go_ret
    exact ⟨rfl, rfl⟩
/-- A digit. -/
def hd (k : Nat) : UInt8 := UInt8.ofNat (if k < 10 then 48 + k else 87 + k)
theorem hd_nat {k : Nat} (h : k < 16) : (hd k).toNat = if k < 10 then 48 + k else 87 + k := by
  unfold hd
  rw [UInt8.toNat_ofNat']
  split <;> omega
theorem dig_at {k : Nat} (h : k < 16) : bAt ⟨#[48, 49, 50, 51, 52, 53, 54, 55, 56, 57, 97, 98, 99, 100, 101, 102]⟩ k = (hd k).toNat := by
  have key : ∀ i : Fin 16, bAt ⟨#[48, 49, 50, 51, 52, 53, 54, 55, 56, 57, 97, 98, 99, 100, 101, 102]⟩ i.val = (hd i.val).toNat := by decide
  exact key ⟨k, h⟩
def ints (l : List UInt8) : List Int := l.map fun b => (b.toNat : Int)
theorem drop_back {xs : List Int} {at_ : Nat} {l : List UInt8} (h : xs.drop at_ = ints l) (j : Nat) (hj : j < l.length) : (ma .u8 xs)[at_ + j]? = some (.int .u8 (l[j].toNat : Int)) := by
  have e : (xs.drop at_)[j]? = some (l[j].toNat : Int) := by rw [h, ints, List.getElem?_map, List.getElem?_eq_getElem hj]; rfl
  rw [List.getElem?_drop] at e
  simp only [ma, List.getElem?_toArray, List.getElem?_map, e]
  rfl
theorem infoU8 : (Tryd.prog.info? 5).map (·.size) = some 1 := by kernel_rfl
theorem ret_int {k : IntKind} {a b : Int} (h : a = b) : Ending.returned (.int k a) = .returned (.int k b) := by rw [h]
def hexD (u i : Nat) : UInt8 := hd (u / 16 ^ (7 - i) % 16)
/-- The eight digits of a word. -/
def hexL (u : Nat) : List UInt8 := (List.range 8).map (hexD u)
def fill8 (f : Nat → Int) (j : Nat) : List Int := (List.range 8).map fun i => if i < j then f i else 0
theorem fill8_len (f : Nat → Int) (j : Nat) : (fill8 f j).length = 8 := by simp [fill8]
theorem fill8_set (f : Nat → Int) {j : Nat} (hj : j < 8) : (fill8 f j).set j (f j) = fill8 f (j + 1) := by
  apply List.ext_getElem?
  intro i
  rw [List.getElem?_set]
  unfold fill8
  rw [List.getElem?_map, List.getElem?_map, List.length_map, List.length_range]
  by_cases h : i < 8
  · rw [List.getElem?_range h]
    by_cases h2 : j = i
    · subst h2; simp [h]
    · by_cases h3 : i < j
      · simp [h2, h3, show i < j + 1 by omega]
      · simp [h2, h3, show ¬ i < j + 1 by omega]
  · rw [List.getElem?_eq_none (by simp; omega)]
    by_cases h2 : j = i
    · omega
    · simp [h2]
theorem fill8_all (u : Nat) : fill8 (fun i => ((hexD u i).toNat : Int)) 8 = ints (hexL u) := rfl
theorem and_15 {n : Nat} (h : n < 4294967296) : bits .and .u32 (n : Int) 15 = ((n % 16 : Nat) : Int) := by
  have := bits_mask .u32 32 (by decide) (fun n a b => by rw [IntKind.wrap_u32]; omega) 4 (by decide) (n : Int) (by omega) (by omega)
  have e : (2 : Int) ^ 4 - 1 = 15 := by decide
  rw [e] at this
  rw [this]
  rfl
theorem hex_any (u : Nat) (w : World) (h : u < 4294967296) : Calls Tryd.prog 39 #[.int .u32 u] w fun e w' => e = .returned (.string (bs (hexL u))) ∧ Below w.heap.size w w' := by
  obtain ⟨f, hf⟩ : ∃ f : Nat → Int, f = fun i => ((hexD u i).toNat : Int) := ⟨_, rfl⟩
  have HF := Lib.hid hf
  clear hf
  have HB := keepBa (startB w) (.cells #[.int .u8 0, .int .u8 0, .int .u8 0, .int .u8 0, .int .u8 0, .int .u8 0, .int .u8 0, .int .u8 0] 91)
  have HA : Hid ((w.alloc (.cells #[.int .u8 0, .int .u8 0, .int .u8 0, .int .u8 0, .int .u8 0, .int .u8 0, .int .u8 0, .int .u8 0] 91)).heap[w.heap.size]? = some (.cells (ma .u8 (fill8 f 0)) 91 (0, 0))) := heap_alloc_new _ _
  go_enter Tryd.func39, Tryd.ntmps39
  go_wp2
  go_loopw [5] (fun i wr => ∃ j : Nat, j ≤ 8 ∧ i = .int .i64 j ∧ Hid (wr.heap[w.heap.size]? = some (.cells (ma .u8 (fill8 f j)) 91 (0, 0))) ∧ Hid (Below w.heap.size w wr ∧ w.heap.size ≤ wr.heap.size)) (fun i _ => 8 - (intOf i).toNat)
  case atStart => exact ⟨0, by omega, rfl, HA, HB⟩
  case round =>
    clear HA HB
    obtain ⟨j, hj, rfl, HA, HB⟩ := hrel
    by_cases hlt : j < 8
    · have e1 : ((28 : Int) - 4 * (j : Int)).toNat = 28 - 4 * j := by omega
      obtain ⟨V, hV⟩ : ∃ V, u / 2 ^ (28 - 4 * j) = V := ⟨_, rfl⟩
      have v1 : V < 4294967296 := by rw [← hV]; exact Nat.lt_of_le_of_lt (Nat.div_le_self _ _) h
      have e2 : (u : Int) / 2 ^ (28 - 4 * j) = (V : Int) := by rw [← hV, Int.natCast_ediv, Int.natCast_pow]; rfl
      have e3 := and_15 v1
      have ef : Hid (((hd (V % 16)).toNat : Int) = f j) := Lib.hid (by
        rw [HF.out]
        show _ = ((hexD u j).toNat : Int)
        unfold hexD
        rw [show (16 : Nat) ^ (7 - j) = 2 ^ (28 - 4 * j) by rw [show (16 : Nat) = 2 ^ 4 from rfl, ← Nat.pow_mul]; congr 1; omega, hV])
      clear hV
      go_wp2_with (first | (refine strIndex rfl _ _ _ rfl Tryd.underlying9 ⟨#[48, 49, 50, 51, 52, 53, 54, 55, 56, 57, 97, 98, 99, 100, 101, 102]⟩ rfl _ _ rfl (V % 16) _ rfl (show V % 16 < 16 by omega) (dig_at (by omega)) ?_) | (refine cellStore rfl 5 _ _ rfl w.heap.size j rfl (.int .u8 ((hd (V % 16)).toNat : Int)) rfl rfl rfl HA.out (by rw [ma_size, fill8_len]; omega) infoU8 ?_; intro w4 ha ho; replace HB := keepBo HB (Nat.le_refl _) ho; clear HA; rw [ma_set] at ha; have HA := Lib.hid ha; clear ha ho))
      go_roundw
      case rel => exact ⟨j + 1, by omega, by go_num, by rw [← fill8_set f hlt, ← ef.out]; exact HA, HB⟩
      case measure => simp [intOf]; omega
    · obtain rfl : j = 8 := by omega
      have HY : Hid ((fill8 f 8).drop 0 = ints (hexL u)) := by show (fill8 f 8).drop 0 = _; rw [HF.out]; rfl
      go_wp2_with (first | (refine arrAll rfl _ _ rfl 8 5 Tryd.underlying91 infoU8 w.heap.size rfl (by decide) ?_) | (refine strBack rfl _ _ 5 _ rfl Tryd.underlying26 Tryd.underlying5 Tryd.underlying9 _ _ _ _ rfl (hexL u) rfl HA.out (drop_back HY.out) ?_))
      go_ret
      exact ⟨rfl, HB.out.1⟩
theorem rdigit_any (k : Nat) (w : World) (h : k < 16) : Calls Tryd.prog 43 #[.int .u32 k] w fun e w' => e = .returned (.int .u8 ((hd k).toNat : Int)) ∧ w = w' := by
  rw [hd_nat h]
  by_cases q : k < 10
  · rw [if_pos q]
    go_enter Tryd.func43, Tryd.ntmps43
    go_wp2
    go_ret
    exact ⟨ret_int (by omega), rfl⟩
  · rw [if_neg q]
    go_enter Tryd.func43, Tryd.ntmps43
    go_wp2
    go_ret
    exact ⟨ret_int (by omega), rfl⟩
theorem hexL_drop (u : Nat) {j : Nat} (h : j < 8) : hd (u / 16 ^ j % 16) :: (hexL u).drop (8 - j) = (hexL u).drop (8 - (j + 1)) := by
  have e : (hexL u).length = 8 := by simp [hexL]
  rw [List.drop_eq_getElem_cons (show 8 - (j + 1) < (hexL u).length by omega), show 8 - (j + 1) + 1 = 8 - j by omega]
  congr 1
  simp only [hexL, List.getElem_map, List.getElem_range]
  unfold hexD
  rw [show 7 - (8 - (j + 1)) = j by omega]
theorem rhexs_any (u : Nat) (w : World) (h : u < 4294967296) : Calls Tryd.prog 28 #[.int .u32 u] w fun e w' => e = .returned (.string (bs (hexL u))) ∧ Below w.heap.size w w' := by
  have HB := startB w
  go_enter Tryd.func28, Tryd.ntmps28
  go_wp2
  go_loopw [3, 4, 5] (fun o x i wr => ∃ (j V : Nat) (l : List UInt8), j ≤ 8 ∧ i = .int .i64 j ∧ x = .int .u32 V ∧ V < 4294967296 ∧ o = .string (bs l) ∧ l.length ≤ 8 ∧ Hid (V = u / 16 ^ j) ∧ Hid (l = (hexL u).drop (8 - j)) ∧ Hid (Below w.heap.size w wr ∧ w.heap.size ≤ wr.heap.size)) (fun _ _ i _ => 8 - (intOf i).toNat)
  case atStart => exact ⟨0, u, [], by omega, rfl, rfl, h, rfl, Nat.zero_le _, by show u = u / 16 ^ 0; simp, by show [] = (hexL u).drop 8; rw [List.drop_eq_nil_of_le (by simp [hexL])], HB⟩
  case round =>
    clear HB
    obtain ⟨j, V, l, hj, rfl, rfl, v1, rfl, hl, HV, HL, HB⟩ := hrel
    by_cases hlt : j < 8
    · have em : (V : Int).tmod 16 = ((V % 16 : Nat) : Int) := by rw [Int.tmod_eq_emod_of_nonneg (by omega)]; rfl
      have eq : (V : Int).tdiv 16 = ((V / 16 : Nat) : Int) := by rw [Int.tdiv_eq_ediv_of_nonneg (by omega)]; rfl
      have HC : Hid ((#[Value.int .u8 ((hd (V % 16)).toNat : Int)])[0 + 0]? = some (.int .u8 ((hd (V % 16)).toNat : Int))) := Lib.hid rfl
      have HN : Hid (hd (V % 16) :: l = (hexL u).drop (8 - (j + 1))) := by
        show hd (V % 16) :: l = (hexL u).drop (8 - (j + 1))
        rw [← hexL_drop u hlt, HV.out, HL.out]
      have HW : Hid (V / 16 = u / 16 ^ (j + 1)) := by
        show V / 16 = u / 16 ^ (j + 1)
        rw [HV.out, Nat.div_div_eq_div_mul, Nat.pow_succ]
      have hl2 : (hd (V % 16) :: l).length ≤ 8 := by rw [HN.out, List.length_drop]; simp [hexL]
      go_wp2_with (first | (refine strBack rfl _ _ 5 _ rfl Tryd.underlying26 Tryd.underlying5 Tryd.underlying9 _ _ _ _ rfl [hd (V % 16)] rfl (heap_alloc_new _ _) (fun j hj => by obtain rfl : j = 0 := by { simp at hj; omega }; exact HC.out) ?_) | (refine strAdd rfl _ _ _ _ rfl (bs [hd (V % 16)]) (bs l) (bs (hd (V % 16) :: l)) rfl rfl (by rw [bs_size, bs_size]; simp; omega) (bs_add _ _) ?_) | (go_at_call 43; refine (rdigit_any (V % 16) _ (by omega)).mono ?_; rintro e w3 ⟨rfl, rfl⟩))
      go_roundw
      case rel => exact ⟨j + 1, V / 16, _, by omega, by go_num, rfl, by omega, rfl, hl2, HW, HN, keepBa HB _⟩
      case measure => simp [intOf]; omega
    · obtain rfl : j = 8 := by omega
      go_wp2
      go_ret
      exact ⟨by rw [HL.out]; rfl, HB.out.1⟩
theorem infoStr : (Tryd.prog.info? 9).map (fun i => (i.zero, i.size, i.bytes)) = some (some (.string ⟨#[]⟩), 1, 16) := by kernel_rfl
/-- A slice of texts that the call has made. -/
abbrev Own (w : World) (B : Nat) (v : Value) (ws : List ByteArray) : Prop := w.ownsRow B 9 1 v ws.length (ws.map Value.string)
theorem own_add {w : World} {B : Nat} {v : Value} {ws : List ByteArray} {x : ByteArray} (h : w.ownsRow B 9 1 v (ws.length + 1) (ws.map Value.string ++ [.string x])) : Own w B v (ws ++ [x]) := by
  unfold Own
  rw [List.length_append, List.map_append]
  exact h
theorem own_empty (w : World) : Own (w.alloc (.cells #[] 9)) w.heap.size (.slice (some ⟨w.heap.size, 0, none⟩) 0 0) [] :=
  ⟨rfl, .inr ⟨w.heap.size, 0, #[], rfl, Nat.le_refl _, heap_alloc_new _ _, Nat.le_refl _, Nat.zero_le _, rfl, rfl⟩⟩
/-- A slice of texts that is read. -/
def RdS (w : World) (A : Option Addr) (ws : List ByteArray) : Prop :=
  0 < ws.length → ∃ b off, A = some ⟨b, off, none⟩ ∧ ∀ j x, ws[j]? = some x → w.cell? ⟨b, off + j, none⟩ = some (.string x)
theorem RdS.of_own {w : World} {B : Nat} {v : Value} {ws : List ByteArray} (h : Own w B v ws) : ∃ A c, v = .slice A ws.length c ∧ RdS w A ws := by
  rcases h.2 with ⟨rfl, hn⟩ | ⟨g, cap, cur, rfl, hB, _⟩
  · exact ⟨none, 0, by rw [hn], fun h => by omega⟩
  · refine ⟨_, cap, rfl, fun hn => ⟨g, 0, rfl, fun j x hx => ?_⟩⟩
    have hc := h.cells (g := g) rfl j (.string x) (by rw [List.getElem?_map, hx]; rfl)
    have ha : (⟨g, 0, none⟩ : Addr).add j = ⟨g, 0 + j, none⟩ := by unfold Addr.add; split <;> simp_all
    rwa [ha] at hc
end Go.Proofs.YtnigkecpiolgeaaDoor.My
/- Walk: the lines of any text. -/
set_option linter.unusedVariables false
namespace Go.Proofs.YtnigkecpiolgeaaDoor.My
open Go.RowKit
/-- May a byte stand in a line (or end it)? -/
def okc (c : Nat) : Bool := decide (32 ≤ c ∧ c ≤ 126) || c == 9 || c == 10
/-- How many line feeds, from place i on. -/
def feedsR (s : ByteArray) : Nat → Nat → Nat
  | 0, _ => 0
  | b + 1, i => (if bAt s i = 10 then 1 else 0) + feedsR s b (i + 1)
def plainR (s : ByteArray) : Nat → Nat → Bool
  | 0, _ => true
  | b + 1, i => okc (bAt s i) && plainR s b (i + 1)
/-- The lines from place i on, where one has begun at F. -/
def linesR (s : ByteArray) : Nat → Nat → Nat → List ByteArray
  | 0, _, _ => []
  | b + 1, i, F => if bAt s i = 10 then s.extract F i :: linesR s b (i + 1) (i + 1) else linesR s b (i + 1) F
def longL (s : ByteArray) : Prop := 65536 < s.size ∨ 4096 < feedsR s s.size 0
def formL (s : ByteArray) : Prop := (0 < s.size ∧ bAt s (s.size - 1) ≠ 10) ∨ plainR s s.size 0 = false
instance (s : ByteArray) : Decidable (longL s) := by unfold longL; infer_instance
instance (s : ByteArray) : Decidable (formL s) := by unfold formL; infer_instance
/-- The lines of a text, or what is wrong. -/
def linesV (s : ByteArray) : List ByteArray × Int := if longL s then ([], 4) else if formL s then ([], 2) else (linesR s s.size 0 0, 0)
theorem okc_high {c : Nat} (h : 128 ≤ c) : okc c = false := by
  unfold okc
  rw [decide_eq_false (by omega), beq_eq_false_iff_ne.2 (by omega), beq_eq_false_iff_ne.2 (by omega)]
  rfl
theorem feeds_skip (s : ByteArray) (b : Nat) : ∀ (d i : Nat), (∀ k, k < d → 128 ≤ bAt s (i + k)) → feedsR s (b + d) i = feedsR s b (i + d)
  | 0, i, _ => rfl
  | d + 1, i, h => by
    have e := feeds_skip s b d (i + 1) (fun k hk => by rw [Nat.add_assoc, Nat.add_comm 1 k]; exact h (k + 1) (by omega))
    have h0 := h 0 (by omega)
    rw [Nat.add_zero] at h0
    rw [show b + (d + 1) = (b + d) + 1 by omega, feedsR, if_neg (by omega), e, show i + 1 + d = i + (d + 1) by omega, Nat.zero_add]
theorem plain_skip (s : ByteArray) (b d i : Nat) (hd : 1 ≤ d) (h : ∀ k, k < d → 128 ≤ bAt s (i + k)) : plainR s (b + d) i = false := by
  obtain ⟨m, rfl⟩ : ∃ m, d = m + 1 := ⟨d - 1, by omega⟩
  have h0 := h 0 (by omega)
  rw [Nat.add_zero] at h0
  rw [show b + (m + 1) = (b + m) + 1 by omega, plainR, okc_high h0]
  rfl
theorem plain_high (s : ByteArray) (h : plainR s s.size 0 = true) : ∀ i, i < s.size → bAt s i < 128 := by
  have key : ∀ b i, plainR s b i = true → ∀ j, i ≤ j → j < i + b → bAt s j < 128 := by
    intro b
    induction b with
    | zero => intro i _ j h1 h2; omega
    | succ b ih =>
      intro i h j h1 h2
      rw [plainR, Bool.and_eq_true] at h
      by_cases q : j = i
      · subst q
        by_cases r : bAt s j < 128
        · exact r
        · rw [okc_high (by omega)] at h; cases h.1
      · exact ih (i + 1) h.2 j (by omega) (by omega)
  exact fun i hi => key s.size 0 h i (Nat.zero_le _) (by omega)
end Go.Proofs.YtnigkecpiolgeaaDoor.My
/- Walk: the lines of any text. -/
set_option linter.unusedVariables false
namespace Go.Proofs.YtnigkecpiolgeaaDoor.My
open Go.RowKit
theorem okc_10 : okc 10 = true := rfl
theorem okc_9 : okc 9 = true := rfl
theorem okc_mid {c : Nat} (h1 : 32 ≤ c) (h2 : c ≤ 126) : okc c = true := by unfold okc; rw [decide_eq_true ⟨h1, h2⟩]; rfl
theorem okc_bad {c : Nat} (h1 : ¬ (32 ≤ c ∧ c ≤ 126)) (h2 : c ≠ 9) (h3 : c ≠ 10) : okc c = false := by
  unfold okc
  rw [decide_eq_false h1, beq_eq_false_iff_ne.2 h2, beq_eq_false_iff_ne.2 h3]
  rfl
set_option maxRecDepth 100000 in
set_option maxHeartbeats 4000000 in
theorem lines_any (s : ByteArray) (w : World) (hm : s.size ≤ 1000000) : Calls Tryd.prog 31 #[.string s] w fun e w' => (∃ v, e = .returned (.tuple #[v, .int .i64 (linesV s).2]) ∧ Own w' w.heap.size v (linesV s).1) ∧ Below w.heap.size w w' := by
  obtain ⟨R, hR⟩ : ∃ R, linesV s = R := ⟨_, rfl⟩
  rw [hR]
  have HR := Lib.hid hR
  clear hR
  obtain ⟨N, hN⟩ : ∃ N, feedsR s s.size 0 = N := ⟨_, rfl⟩
  obtain ⟨Pl, hP⟩ : ∃ P, plainR s s.size 0 = P := ⟨_, rfl⟩
  have HN := Lib.hid hN
  have HP := Lib.hid hP
  clear hN hP
  have HB := keepBa (startB w) (.stringIter s 0)
  have HI : Hid ((w.iter s 0).heap[w.heap.size]? = some (.stringIter s 0)) := World.iter_heap w s 0
  go_enter Tryd.func31, Tryd.ntmps31
  go_wp2
  go_loopw [4, 5] (fun f p wr => ∃ (k n : Nat) (b : Bool), k ≤ s.size ∧ f = .int .i64 n ∧ p = .bool b ∧ n ≤ k ∧ Hid (n + feedsR s (s.size - k) k = N) ∧ Hid ((b && plainR s (s.size - k) k) = Pl) ∧ Hid (wr.heap[w.heap.size]? = some (.stringIter s k)) ∧ Hid (Below w.heap.size w wr ∧ w.heap.size ≤ wr.heap.size)) (fun _ _ wr => s.size - wr.iterPos w.heap.size)
  case atStart => exact ⟨0, 0, true, Nat.zero_le _, rfl, rfl, Nat.le_refl _, by show 0 + feedsR s (s.size - 0) 0 = N; rw [Nat.zero_add]; exact HN.out, by show (true && plainR s (s.size - 0) 0) = Pl; exact HP.out, HI, HB⟩
  case round =>
    clear HI HB
    obtain ⟨k, n, b, hks, rfl, rfl, hnk, HF, HQ, HI, HB⟩ := hrel
    obtain ⟨wo, rfl⟩ : ∃ wo, wo = wr := ⟨wr, rfl⟩
    have HI0 := HI
    by_cases hk : k < s.size
    · obtain ⟨c, hc⟩ : ∃ c, bAt s k = c := ⟨_, rfl⟩
      have HC : Hid (c = bAt s k) := Lib.hid hc.symm
      have hf := HF.out
      have hq := HQ.out
      by_cases hb : c < 128
      · rw [show s.size - k = (s.size - (k + 1)) + 1 by omega, feedsR, hc] at hf
        rw [show s.size - k = (s.size - (k + 1)) + 1 by omega, plainR, hc] at hq
        by_cases q : c = 10
        · rcases b with _ | _
          · subst q
            have HF2 : Hid (n + 1 + feedsR s (s.size - (k + 1)) (k + 1) = N) := Lib.hid (by rw [← hf]; rw [if_pos rfl]; omega)
            have HQ2 : Hid ((false && plainR s (s.size - (k + 1)) (k + 1)) = Pl) := Lib.hid (by rw [← hq, okc_10]; rfl)
            clear hf hq hc
            go_wp2_with (refine iterLow rfl _ rfl w.heap.size rfl HI.out hk (Eq.symm HC.out) hb ?_; intro w2 hi ho; replace HI := Lib.hid hi; replace HB := keepBo HB (Nat.le_refl _) ho; clear hi ho)
            go_roundw
            case rel => exact ⟨k + 1, n + 1, false, by omega, by first | rfl | go_num, by first | rfl | exact congrArg Value.bool (decide_eq_false (by omega)), by omega, HF2, HQ2, HI, HB⟩
            case measure => rw [pos_of HI.out, pos_of HI0.out]; omega
          · subst q
            have HF2 : Hid (n + 1 + feedsR s (s.size - (k + 1)) (k + 1) = N) := Lib.hid (by rw [← hf]; rw [if_pos rfl]; omega)
            have HQ2 : Hid ((true && plainR s (s.size - (k + 1)) (k + 1)) = Pl) := Lib.hid (by rw [← hq, okc_10]; rfl)
            clear hf hq hc
            go_wp2_with (refine iterLow rfl _ rfl w.heap.size rfl HI.out hk (Eq.symm HC.out) hb ?_; intro w2 hi ho; replace HI := Lib.hid hi; replace HB := keepBo HB (Nat.le_refl _) ho; clear hi ho)
            go_roundw
            case rel => exact ⟨k + 1, n + 1, true, by omega, by first | rfl | go_num, by first | rfl | exact congrArg Value.bool (decide_eq_false (by omega)), by omega, HF2, HQ2, HI, HB⟩
            case measure => rw [pos_of HI.out, pos_of HI0.out]; omega
        by_cases q : c = 9
        · rcases b with _ | _
          · subst q
            have HF2 : Hid (n + feedsR s (s.size - (k + 1)) (k + 1) = N) := Lib.hid (by rw [← hf]; rw [if_neg (by omega)]; omega)
            have HQ2 : Hid ((false && plainR s (s.size - (k + 1)) (k + 1)) = Pl) := Lib.hid (by rw [← hq, okc_9]; rfl)
            clear hf hq hc
            go_wp2_with (refine iterLow rfl _ rfl w.heap.size rfl HI.out hk (Eq.symm HC.out) hb ?_; intro w2 hi ho; replace HI := Lib.hid hi; replace HB := keepBo HB (Nat.le_refl _) ho; clear hi ho)
            go_roundw
            case rel => exact ⟨k + 1, n, false, by omega, by first | rfl | go_num, by first | rfl | exact congrArg Value.bool (decide_eq_false (by omega)), by omega, HF2, HQ2, HI, HB⟩
            case measure => rw [pos_of HI.out, pos_of HI0.out]; omega
          · subst q
            have HF2 : Hid (n + feedsR s (s.size - (k + 1)) (k + 1) = N) := Lib.hid (by rw [← hf]; rw [if_neg (by omega)]; omega)
            have HQ2 : Hid ((true && plainR s (s.size - (k + 1)) (k + 1)) = Pl) := Lib.hid (by rw [← hq, okc_9]; rfl)
            clear hf hq hc
            go_wp2_with (refine iterLow rfl _ rfl w.heap.size rfl HI.out hk (Eq.symm HC.out) hb ?_; intro w2 hi ho; replace HI := Lib.hid hi; replace HB := keepBo HB (Nat.le_refl _) ho; clear hi ho)
            go_roundw
            case rel => exact ⟨k + 1, n, true, by omega, by first | rfl | go_num, by first | rfl | exact congrArg Value.bool (decide_eq_false (by omega)), by omega, HF2, HQ2, HI, HB⟩
            case measure => rw [pos_of HI.out, pos_of HI0.out]; omega
        by_cases q : 32 ≤ c ∧ c ≤ 126
        · rcases b with _ | _
          · obtain ⟨g1, g2⟩ := q
            have q1 : ((c : Int) == 10) = false := beq_eq_false_iff_ne.2 (by omega)
            have HF2 : Hid (n + feedsR s (s.size - (k + 1)) (k + 1) = N) := Lib.hid (by rw [← hf]; rw [if_neg (by omega)]; omega)
            have HQ2 : Hid ((false && plainR s (s.size - (k + 1)) (k + 1)) = Pl) := Lib.hid (by rw [← hq, okc_mid g1 g2]; rfl)
            clear hf hq hc
            go_wp2_with (refine iterLow rfl _ rfl w.heap.size rfl HI.out hk (Eq.symm HC.out) hb ?_; intro w2 hi ho; replace HI := Lib.hid hi; replace HB := keepBo HB (Nat.le_refl _) ho; clear hi ho)
            go_roundw
            case rel => exact ⟨k + 1, n, false, by omega, by first | rfl | go_num, by first | rfl | exact congrArg Value.bool (decide_eq_false (by omega)), by omega, HF2, HQ2, HI, HB⟩
            case measure => rw [pos_of HI.out, pos_of HI0.out]; omega
          · obtain ⟨g1, g2⟩ := q
            have q1 : ((c : Int) == 10) = false := beq_eq_false_iff_ne.2 (by omega)
            have HF2 : Hid (n + feedsR s (s.size - (k + 1)) (k + 1) = N) := Lib.hid (by rw [← hf]; rw [if_neg (by omega)]; omega)
            have HQ2 : Hid ((true && plainR s (s.size - (k + 1)) (k + 1)) = Pl) := Lib.hid (by rw [← hq, okc_mid g1 g2]; rfl)
            clear hf hq hc
            go_wp2_with (refine iterLow rfl _ rfl w.heap.size rfl HI.out hk (Eq.symm HC.out) hb ?_; intro w2 hi ho; replace HI := Lib.hid hi; replace HB := keepBo HB (Nat.le_refl _) ho; clear hi ho)
            go_roundw
            case rel => exact ⟨k + 1, n, true, by omega, by first | rfl | go_num, by first | rfl | exact congrArg Value.bool (decide_eq_false (by omega)), by omega, HF2, HQ2, HI, HB⟩
            case measure => rw [pos_of HI.out, pos_of HI0.out]; omega
        have q1 : ((c : Int) == 10) = false := beq_eq_false_iff_ne.2 (by omega)
        have q2 : ((c : Int) == 9) = false := beq_eq_false_iff_ne.2 (by omega)
        have ob : okc c = false := okc_bad (by omega) (by omega) (by omega)
        rcases b with _ | _
        · have f10 : ¬ c = 10 := by omega
          have HF2 : Hid (n + feedsR s (s.size - (k + 1)) (k + 1) = N) := Lib.hid (by rw [← hf]; rw [if_neg (by omega)]; omega)
          have HQ2 : Hid ((false && plainR s (s.size - (k + 1)) (k + 1)) = Pl) := Lib.hid (by rw [← hq, ob]; rfl)
          clear hf hq hc
          go_wp2_with (refine iterLow rfl _ rfl w.heap.size rfl HI.out hk (Eq.symm HC.out) hb ?_; intro w2 hi ho; replace HI := Lib.hid hi; replace HB := keepBo HB (Nat.le_refl _) ho; clear hi ho)
          go_roundw
          case rel => exact ⟨k + 1, n, false, by omega, by first | rfl | go_num, by first | rfl | exact congrArg Value.bool (decide_eq_false (by omega)), by omega, HF2, HQ2, HI, HB⟩
          case measure => rw [pos_of HI.out, pos_of HI0.out]; omega
        · have f10 : ¬ c = 10 := by omega
          rcases (show c < 32 ∨ 126 < c by omega) with q3 | q3
          · have HF2 : Hid (n + feedsR s (s.size - (k + 1)) (k + 1) = N) := Lib.hid (by rw [← hf]; rw [if_neg (by omega)]; omega)
            have HQ2 : Hid ((false && plainR s (s.size - (k + 1)) (k + 1)) = Pl) := Lib.hid (by rw [← hq, ob]; rfl)
            clear hf hq hc
            go_wp2_with (refine iterLow rfl _ rfl w.heap.size rfl HI.out hk (Eq.symm HC.out) hb ?_; intro w2 hi ho; replace HI := Lib.hid hi; replace HB := keepBo HB (Nat.le_refl _) ho; clear hi ho)
            go_roundw
            case rel => exact ⟨k + 1, n, false, by omega, by first | rfl | go_num, by first | rfl | exact congrArg Value.bool (decide_eq_false (by omega)), by omega, HF2, HQ2, HI, HB⟩
            case measure => rw [pos_of HI.out, pos_of HI0.out]; omega
          · have HF2 : Hid (n + feedsR s (s.size - (k + 1)) (k + 1) = N) := Lib.hid (by rw [← hf]; rw [if_neg (by omega)]; omega)
            have HQ2 : Hid ((false && plainR s (s.size - (k + 1)) (k + 1)) = Pl) := Lib.hid (by rw [← hq, ob]; rfl)
            clear hf hq hc
            go_wp2_with (refine iterLow rfl _ rfl w.heap.size rfl HI.out hk (Eq.symm HC.out) hb ?_; intro w2 hi ho; replace HI := Lib.hid hi; replace HB := keepBo HB (Nat.le_refl _) ho; clear hi ho)
            go_roundw
            case rel => exact ⟨k + 1, n, false, by omega, by first | rfl | go_num, by first | rfl | exact congrArg Value.bool (decide_eq_false (by omega)), by omega, HF2, HQ2, HI, HB⟩
            case measure => rw [pos_of HI.out, pos_of HI0.out]; omega
      · have hb : 128 ≤ bAt s k := by rw [hc]; omega
        rcases b with _ | _
        all_goals
          clear hf hq hc
          go_wp2_with (refine iterHigh rfl _ rfl w.heap.size rfl HI.out hk hb ?_; intro r d w2 r1 r2 hdec d1 hi ho; replace HI := Lib.hid hi; replace HB := keepBo HB (Nat.le_refl _) ho; have HDEC := Lib.hid (decode_over hk hb hdec); have q1 : ((r : Int) == 10) = false := beq_eq_false_iff_ne.2 (by omega); have q2 : ((r : Int) == 9) = false := beq_eq_false_iff_ne.2 (by omega); clear hi ho hdec)
          go_roundw
          case rel => exact ⟨k + d, n, false, HDEC.out.1, rfl, by first | rfl | exact congrArg Value.bool (decide_eq_false (by omega)), by omega, by show n + feedsR s (s.size - (k + d)) (k + d) = N; rw [← feeds_skip s _ d k HDEC.out.2, ← HF.out]; congr 2; have := HDEC.out.1; omega, by show (false && _) = Pl; rw [← HQ.out, show s.size - k = (s.size - (k + d)) + d by have := HDEC.out.1; omega, plain_skip s _ d k d1 HDEC.out.2]; rfl, HI, HB⟩
          case measure => rw [pos_of HI.out, pos_of HI0.out]; have := HDEC.out.1; omega
    · have hf := HF.out
      have hq := HQ.out
      rw [show s.size - k = 0 by omega, feedsR, Nat.add_zero] at hf
      rw [show s.size - k = 0 by omega, plainR, Bool.and_true] at hq
      subst hf hq
      have eb : ∀ i (h : i < s.size), (s[i]'h).toNat = bAt s i := fun i h => bAt_eq h
      have ei : ((s.size : Int) - 1).toNat = s.size - 1 := by omega
      by_cases hlong : longL s
      · have hR' : R = ([], 4) := by rw [← HR.out]; unfold linesV; rw [if_pos hlong]
        subst hR'
        unfold longL at hlong
        rw [HN.out] at hlong
        by_cases h1 : 65536 < s.size
        · clear hlong
          go_wp2_with (refine iterEnd rfl _ rfl w.heap.size rfl HI.out hk ?_)
          go_ret2
          exact ⟨⟨_, rfl, own_nil _ _ _⟩, HB.out.1⟩
        · have h2 : 4096 < n := by omega
          clear hlong
          go_wp2_with (refine iterEnd rfl _ rfl w.heap.size rfl HI.out hk ?_)
          go_ret2
          exact ⟨⟨_, rfl, own_nil _ _ _⟩, HB.out.1⟩
      · have hlong2 := hlong
        unfold longL at hlong
        rw [HN.out] at hlong
        have h1 : ¬ 65536 < s.size := fun h => hlong (.inl h)
        have h2 : ¬ 4096 < n := fun h => hlong (.inr h)
        have HLO := Lib.hid hlong2
        clear hlong hlong2
        obtain ⟨c, hc⟩ : ∃ c, bAt s (s.size - 1) = c := ⟨_, rfl⟩
        by_cases hlast : 0 < s.size ∧ c ≠ 10
        · have hR' : R = ([], 2) := by rw [← HR.out]; unfold linesV; rw [if_neg HLO.out, if_pos (.inl ⟨hlast.1, by rw [hc]; exact hlast.2⟩)]
          subst hR'
          obtain ⟨l1, l2⟩ := hlast
          have e1 : (s.toList == []) = false := by rw [is_none]; exact beq_eq_false_iff_ne.2 (by omega)
          have e2 : ((c : Int) != 10) = true := bne_iff_ne.2 (by omega)
          clear l2
          go_wp2_with (refine iterEnd rfl _ rfl w.heap.size rfl HI.out hk ?_)
          go_ret2
          exact ⟨⟨_, rfl, own_nil _ _ _⟩, HB.out.1⟩
        · rcases b with _ | _
          · have hR' : R = ([], 2) := by rw [← HR.out]; unfold linesV; rw [if_neg HLO.out, if_pos (.inr HP.out)]
            subst hR'
            by_cases l1 : 0 < s.size
            · have e1 : (s.toList == []) = false := by rw [is_none]; exact beq_eq_false_iff_ne.2 (by omega)
              have l2 : c = 10 := by
                by_cases q : c = 10
                · exact q
                · exact absurd ⟨l1, q⟩ hlast
              clear hlast
              subst l2
              go_wp2_with (refine iterEnd rfl _ rfl w.heap.size rfl HI.out hk ?_)
              go_ret2
              exact ⟨⟨_, rfl, own_nil _ _ _⟩, HB.out.1⟩
            · have e1 : (s.toList == []) = true := by rw [is_none]; exact beq_iff_eq.2 (by omega)
              clear hlast hc
              go_wp2_with (refine iterEnd rfl _ rfl w.heap.size rfl HI.out hk ?_)
              go_ret2
              exact ⟨⟨_, rfl, own_nil _ _ _⟩, HB.out.1⟩
          · have hnf : ¬ formL s := by
              rintro (q | q)
              · exact hlast ⟨q.1, by rw [← hc]; exact q.2⟩
              · rw [HP.out] at q; cases q
            obtain ⟨LS, hL⟩ : ∃ LS, linesR s s.size 0 0 = LS := ⟨_, rfl⟩
            have hR' : R = (LS, 0) := by rw [← HR.out]; unfold linesV; rw [if_neg HLO.out, if_neg hnf, hL]
            subst hR'
            have HL := Lib.hid hL
            have HH := Lib.hid (plain_high s HP.out)
            have HG := Lib.hid HB.out.2
            have HI2 : Hid ((wo.iter s 0).heap[wo.heap.size]? = some (.stringIter s 0)) := World.iter_heap wo s 0
            have hB2 := keepBa HB (.stringIter s 0)
            clear hL hnf
            by_cases l1 : 0 < s.size
            · have e1 : (s.toList == []) = false := by rw [is_none]; exact beq_eq_false_iff_ne.2 (by omega)
              have l2 : c = 10 := by
                by_cases q : c = 10
                · exact q
                · exact absurd ⟨l1, q⟩ hlast
              clear hlast
              subst l2
              go_wp2_with (refine iterEnd rfl _ rfl w.heap.size rfl HI.out hk ?_)
              clear eb ei e1
              go_loopw [8, 9] (fun o fr wq => ∃ (j F : Nat) (ws : List ByteArray), j ≤ s.size ∧ fr = .int .i64 F ∧ F ≤ j ∧ ws.length ≤ j ∧ Hid (ws ++ linesR s (s.size - j) j F = LS) ∧ Hid (Own wq (wo.heap.size + 1) o ws) ∧ Hid (wq.heap[wo.heap.size]? = some (.stringIter s j)) ∧ Hid (Below w.heap.size w wq ∧ w.heap.size ≤ wq.heap.size)) (fun _ _ wq => s.size - wq.iterPos wo.heap.size)
              case atStart => exact ⟨0, 0, [], Nat.zero_le _, rfl, Nat.le_refl _, Nat.le_refl _, HL, Lib.hid (own_nil _ _ _), HI2, hB2⟩
              case round =>
              clear HI2 hB2 HB hk
              obtain ⟨j, F, ws, hjs, rfl, hF, hl, HX, HO, HI2, HB⟩ := hrel
              have HI3 := HI2
              by_cases hk : j < s.size
              · obtain ⟨c, hc⟩ : ∃ c, bAt s j = c := ⟨_, rfl⟩
                have HC : Hid (c = bAt s j) := Lib.hid hc.symm
                have hb : c < 128 := by rw [← hc]; exact HH.out j hk
                have hx := HX.out
                rw [show s.size - j = (s.size - (j + 1)) + 1 by omega, linesR, hc] at hx
                by_cases h10 : c = 10
                · rw [if_pos h10, List.append_cons] at hx
                  have HX2 := Lib.hid hx
                  clear hx hc
                  subst h10
                  go_wp2_with (first | (refine iterLow rfl _ rfl wo.heap.size rfl HI2.out hk (Eq.symm HC.out) hb ?_; intro w2 hi ho; replace HI2 := Lib.hid hi; replace HB := keepBo HB HG.out ho; replace HO := Lib.hid (own_only HO.out (Nat.lt_succ_self _) ho); clear hi ho) | (refine appOne rfl _ _ 64 9 (.string ⟨#[]⟩) 16 rfl Tryd.underlying64 infoStr rfl (wo.heap.size + 1) _ ws.length (ws.map .string) rfl HO.out _ rfl _ rfl (by unfold maxLen; omega) (by omega) (Array.getElem?_eq_some_iff.1 HI2.out).1 ?_; intro v2 w3 ho2 hb2; replace HO := Lib.hid (own_add ho2); replace HI2 := keepAg HI2 (Nat.lt_succ_self _) hb2; replace HB := keepBg HB (Nat.le_trans HG.out (Nat.le_succ _)) hb2; clear ho2 hb2))
                  go_roundw
                  case rel => exact ⟨j + 1, j + 1, ws ++ [s.extract F j], by omega, by go_num, by omega, by rw [List.length_append]; simp; omega, HX2, HO, HI2, HB⟩
                  case measure => rw [pos_of HI2.out, pos_of HI3.out]; omega
                · rw [if_neg h10] at hx
                  have HX2 := Lib.hid hx
                  have q1 : ((c : Int) == 10) = false := beq_eq_false_iff_ne.2 (by omega)
                  clear hx hc h10
                  go_wp2_with (refine iterLow rfl _ rfl wo.heap.size rfl HI2.out hk (Eq.symm HC.out) hb ?_; intro w2 hi ho; replace HI2 := Lib.hid hi; replace HB := keepBo HB HG.out ho; replace HO := Lib.hid (own_only HO.out (Nat.lt_succ_self _) ho); clear hi ho)
                  go_roundw
                  case rel => exact ⟨j + 1, F, ws, by omega, rfl, by omega, by omega, HX2, HO, HI2, HB⟩
                  case measure => rw [pos_of HI2.out, pos_of HI3.out]; omega
              · have hx := HX.out
                rw [show s.size - j = 0 by omega, linesR, List.append_nil] at hx
                have HX2 := Lib.hid hx
                clear hx
                go_wp2_with (refine iterEnd rfl _ rfl wo.heap.size rfl HI2.out hk ?_)
                go_ret2
                exact ⟨⟨_, rfl, by rw [← HX2.out]; exact own_weak HO.out (Nat.le_trans HG.out (Nat.le_succ _))⟩, HB.out.1⟩
            · have e1 : (s.toList == []) = true := by rw [is_none]; exact beq_iff_eq.2 (by omega)
              clear hlast hc
              go_wp2_with (refine iterEnd rfl _ rfl w.heap.size rfl HI.out hk ?_)
              clear eb ei e1
              go_loopw [8, 9] (fun o fr wq => ∃ (j F : Nat) (ws : List ByteArray), j ≤ s.size ∧ fr = .int .i64 F ∧ F ≤ j ∧ ws.length ≤ j ∧ Hid (ws ++ linesR s (s.size - j) j F = LS) ∧ Hid (Own wq (wo.heap.size + 1) o ws) ∧ Hid (wq.heap[wo.heap.size]? = some (.stringIter s j)) ∧ Hid (Below w.heap.size w wq ∧ w.heap.size ≤ wq.heap.size)) (fun _ _ wq => s.size - wq.iterPos wo.heap.size)
              case atStart => exact ⟨0, 0, [], Nat.zero_le _, rfl, Nat.le_refl _, Nat.le_refl _, HL, Lib.hid (own_nil _ _ _), HI2, hB2⟩
              case round =>
              clear HI2 hB2 HB hk
              obtain ⟨j, F, ws, hjs, rfl, hF, hl, HX, HO, HI2, HB⟩ := hrel
              have HI3 := HI2
              by_cases hk : j < s.size
              · exfalso; omega
              · have hx := HX.out
                rw [show s.size - j = 0 by omega, linesR, List.append_nil] at hx
                have HX2 := Lib.hid hx
                clear hx
                go_wp2_with (refine iterEnd rfl _ rfl wo.heap.size rfl HI2.out hk ?_)
                go_ret2
                exact ⟨⟨_, rfl, by rw [← HX2.out]; exact own_weak HO.out (Nat.le_trans HG.out (Nat.le_succ _))⟩, HB.out.1⟩
end Go.Proofs.YtnigkecpiolgeaaDoor.My
/- Walk over the reference: the lines of any text. -/
set_option linter.unusedVariables false
namespace Go.Proofs.YtnigkecpiolgeaaDoor.My
open Go.RowKit
theorem plain_ok {s : ByteArray} (h : plainR s s.size 0 = true) : ∀ i, i < s.size → okc (bAt s i) = true := by
  have key : ∀ b i, plainR s b i = true → ∀ j, i ≤ j → j < i + b → okc (bAt s j) = true := by
    intro b
    induction b with
    | zero => intro i _ j h1 h2; omega
    | succ b ih =>
      intro i h j h1 h2
      rw [plainR, Bool.and_eq_true] at h
      by_cases q : j = i
      · subst q; exact h.1
      · exact ih (i + 1) h.2 j (by omega) (by omega)
  exact fun i hi => key s.size 0 h i (Nat.zero_le _) (by omega)
theorem plain_all {s : ByteArray} (h : ∀ i, i < s.size → okc (bAt s i) = true) : plainR s s.size 0 = true := by
  have key : ∀ b i, i + b ≤ s.size → plainR s b i = true := by
    intro b
    induction b with
    | zero => intro i _; rfl
    | succ b ih =>
      intro i hi
      rw [plainR, h i (by omega), ih (i + 1) (by omega)]; rfl
  exact key s.size 0 (by omega)
set_option maxRecDepth 100000 in
set_option maxHeartbeats 4000000 in
theorem rlines_any (s : ByteArray) (w : World) (hm : s.size ≤ 1000000) : Calls Tryd.prog 34 #[.string s] w fun e w' => (∃ v, e = .returned (.tuple #[v, .int .i64 (linesV s).2]) ∧ Own w' w.heap.size v (linesV s).1) ∧ Below w.heap.size w w' := by
  obtain ⟨R, hR⟩ : ∃ R, linesV s = R := ⟨_, rfl⟩
  rw [hR]
  have HR := Lib.hid hR
  clear hR
  obtain ⟨N, hN⟩ : ∃ N, feedsR s s.size 0 = N := ⟨_, rfl⟩
  have HN := Lib.hid hN
  clear hN
  have eb : ∀ i (h : i < s.size), (s[i]'h).toNat = bAt s i := fun i h => bAt_eq h
  have HB := startB w
  go_enter Tryd.func34, Tryd.ntmps34
  go_wp2
  go_loop [4, 5] (fun f i => ∃ (k n : Nat), k ≤ s.size ∧ f = .int .i64 n ∧ i = .int .i64 k ∧ n ≤ k ∧ Hid (n + feedsR s (s.size - k) k = N)) (fun _ i => s.size - (intOf i).toNat)
  case atStart => exact ⟨0, 0, Nat.zero_le _, rfl, rfl, Nat.le_refl _, by show 0 + feedsR s (s.size - 0) 0 = N; rw [Nat.zero_add]; exact HN.out⟩
  case round =>
    obtain ⟨k, n, hks, rfl, rfl, hnk, HF⟩ := hrel
    by_cases hk : k < s.size
    · obtain ⟨c, hc⟩ : ∃ c, bAt s k = c := ⟨_, rfl⟩
      have hf := HF.out
      rw [show s.size - k = (s.size - (k + 1)) + 1 by omega, feedsR, hc] at hf
      by_cases q : c = 10
      · subst q
        have HF2 : Hid (n + 1 + feedsR s (s.size - (k + 1)) (k + 1) = N) := Lib.hid (by rw [← hf, if_pos rfl]; omega)
        clear hf
        go_wp2
        go_round
        case rel => exact ⟨k + 1, n + 1, by omega, by go_num, by go_num, by omega, HF2⟩
        case measure => simp [intOf]; omega
      · have HF2 : Hid (n + feedsR s (s.size - (k + 1)) (k + 1) = N) := Lib.hid (by rw [← hf, if_neg q]; omega)
        have q1 : ((c : Int) == 10) = false := beq_eq_false_iff_ne.2 (by omega)
        clear hf q
        go_wp2
        go_round
        case rel => exact ⟨k + 1, n, by omega, rfl, by go_num, by omega, HF2⟩
        case measure => simp [intOf]; omega
    · have hf := HF.out
      rw [show s.size - k = 0 by omega, feedsR, Nat.add_zero] at hf
      subst hf
      have ei : ((s.size : Int) - 1).toNat = s.size - 1 := by omega
      by_cases hlong : longL s
      · have hR' : R = ([], 4) := by rw [← HR.out]; unfold linesV; rw [if_pos hlong]
        subst hR'
        unfold longL at hlong
        rw [HN.out] at hlong
        by_cases h1 : 65536 < s.size
        · clear hlong
          go_wp2
          go_ret2
          exact ⟨⟨_, rfl, own_empty _⟩, (keepBa HB _).out.1⟩
        · have h2 : 4096 < n := by omega
          clear hlong
          go_wp2
          go_ret2
          exact ⟨⟨_, rfl, own_empty _⟩, (keepBa HB _).out.1⟩
      · have hlong2 := hlong
        unfold longL at hlong
        rw [HN.out] at hlong
        have h1 : ¬ 65536 < s.size := fun h => hlong (.inl h)
        have h2 : ¬ 4096 < n := fun h => hlong (.inr h)
        have HLO := Lib.hid hlong2
        clear hlong hlong2
        obtain ⟨c, hc⟩ : ∃ c, bAt s (s.size - 1) = c := ⟨_, rfl⟩
        by_cases hlast : 0 < s.size ∧ c ≠ 10
        · have hR' : R = ([], 2) := by rw [← HR.out]; unfold linesV; rw [if_neg HLO.out, if_pos (.inl ⟨hlast.1, by rw [hc]; exact hlast.2⟩)]
          subst hR'
          obtain ⟨l1, l2⟩ := hlast
          have e2 : ((c : Int) != 10) = true := bne_iff_ne.2 (by omega)
          clear l2
          go_wp2
          go_ret2
          exact ⟨⟨_, rfl, own_empty _⟩, (keepBa HB _).out.1⟩
        · obtain ⟨LS, hL⟩ : ∃ LS, linesR s s.size 0 0 = LS := ⟨_, rfl⟩
          have hla : ¬ (0 < s.size ∧ bAt s (s.size - 1) ≠ 10) := fun q => hlast ⟨q.1, by rw [← hc]; exact q.2⟩
          have hRy : plainR s s.size 0 = true → R = (LS, 0) := fun h => by
            rw [← HR.out]; unfold linesV
            rw [if_neg HLO.out, if_neg (by rintro (q | q); exact hla q; rw [h] at q; cases q), hL]
          have hRn : plainR s s.size 0 = false → R = ([], 2) := fun h => by
            rw [← HR.out]; unfold linesV
            rw [if_neg HLO.out, if_pos (.inr h)]
          have HRY := Lib.hid hRy
          have HRN := Lib.hid hRn
          have HL := Lib.hid hL
          have hB2 := keepBa HB (.cells #[] 9)
          clear hL hla hRy hRn HB
          by_cases l1 : 0 < s.size
          · have l2 : c = 10 := by
              by_cases q : c = 10
              · exact q
              · exact absurd ⟨l1, q⟩ hlast
            clear hlast
            subst l2
            go_wp2
            clear hc ei
            go_loopw [6, 7, 8] (fun o fr i wq => ∃ (j F : Nat) (ws : List ByteArray), j ≤ s.size ∧ fr = .int .i64 F ∧ i = .int .i64 j ∧ F ≤ j ∧ ws.length ≤ j ∧ Hid (∀ i, i < j → okc (bAt s i) = true) ∧ Hid (ws ++ linesR s (s.size - j) j F = LS) ∧ Hid (Own wq w.heap.size o ws) ∧ Hid (Below w.heap.size w wq ∧ w.heap.size ≤ wq.heap.size)) (fun _ _ i _ => s.size - (intOf i).toNat)
            case atStart => exact ⟨0, 0, [], Nat.zero_le _, rfl, rfl, Nat.le_refl _, Nat.le_refl _, Lib.hid (fun i hi => by omega), HL, Lib.hid (own_empty _), hB2⟩
            case round =>
            clear hB2 hk
            obtain ⟨j, F, ws, hjs, rfl, rfl, hF, hl, HOK, HX, HO, HB⟩ := hrel
            by_cases hk : j < s.size
            · obtain ⟨c, hc⟩ : ∃ c, bAt s j = c := ⟨_, rfl⟩
              have c1 := bAt_lt s j
              rw [hc] at c1
              have hx := HX.out
              rw [show s.size - j = (s.size - (j + 1)) + 1 by omega, linesR, hc] at hx
              have hok : okc c = true → Hid (∀ i, i < j + 1 → okc (bAt s i) = true) := fun h => Lib.hid (fun i hi => by
                by_cases q : i < j
                · exact HOK.out i q
                · rw [show i = j by omega, hc]; exact h)
              by_cases h10 : c = 10
              · rw [if_pos h10, List.append_cons] at hx
                have HX2 := Lib.hid hx
                have HOK2 := hok (by rw [h10]; rfl)
                clear hx hok
                subst h10
                go_wp2_with (refine appOne rfl _ _ 64 9 (.string ⟨#[]⟩) 16 rfl Tryd.underlying64 infoStr rfl w.heap.size _ ws.length (ws.map .string) rfl HO.out _ rfl _ rfl (by unfold maxLen; omega) (by omega) HB.out.2 ?_; intro v2 w3 ho2 hb2; replace HO := Lib.hid (own_add ho2); replace HB := keepBg HB (Nat.le_refl _) hb2; clear ho2 hb2)
                go_roundw
                case rel => exact ⟨j + 1, j + 1, ws ++ [s.extract F j], by omega, by go_num, by go_num, by omega, by rw [List.length_append]; simp; omega, HOK2, HX2, HO, HB⟩
                case measure => simp [intOf]; omega
              · rw [if_neg h10] at hx
                have HX2 := Lib.hid hx
                by_cases h9 : c = 9
                · have HOK2 := hok (by rw [h9]; rfl)
                  clear hx hok h10
                  subst h9
                  go_wp2
                  go_roundw
                  case rel => exact ⟨j + 1, F, ws, by omega, rfl, by go_num, by omega, by omega, HOK2, HX2, HO, HB⟩
                  case measure => simp [intOf]; omega
                · have q1 : ((c : Int) == 10) = false := beq_eq_false_iff_ne.2 (by omega)
                  have q2 : ((c : Int) != 10) = true := bne_iff_ne.2 (by omega)
                  have q3 : ((c : Int) != 9) = true := bne_iff_ne.2 (by omega)
                  by_cases hmid : 32 ≤ c ∧ c ≤ 126
                  · have HOK2 := hok (okc_mid hmid.1 hmid.2)
                    obtain ⟨g1, g2⟩ := hmid
                    clear hx hok h10 h9
                    go_wp2
                    go_roundw
                    case rel => exact ⟨j + 1, F, ws, by omega, rfl, by go_num, by omega, by omega, HOK2, HX2, HO, HB⟩
                    case measure => simp [intOf]; omega
                  · have hbad : plainR s s.size 0 = false := by
                      cases hp : plainR s s.size 0 with
                      | false => rfl
                      | true => have := plain_ok hp j hk; rw [hc, okc_bad hmid h9 h10] at this; cases this
                    have hR' := HRN.out hbad
                    subst hR'
                    clear hx hok h10 h9 hbad
                    rcases (show c < 32 ∨ 126 < c by omega) with g | g
                    all_goals
                      clear hmid
                      go_wp2
                      go_ret2
                      exact ⟨⟨_, rfl, own_weak (own_empty _) HB.out.2⟩, (keepBa HB _).out.1⟩
            · have hx := HX.out
              rw [show s.size - j = 0 by omega, linesR, List.append_nil] at hx
              have hR' := HRY.out (plain_all fun i hi => HOK.out i (by omega))
              subst hR'
              have HX2 := Lib.hid hx
              clear hx
              go_wp2
              go_ret2
              exact ⟨⟨_, rfl, by rw [← HX2.out]; exact HO.out⟩, HB.out.1⟩
          · have hR' := HRY.out (plain_all fun i hi => by omega)
            have hL0 : LS = [] := by rw [← HL.out, show s.size = 0 by omega]; rfl
            subst hR' hL0
            clear hlast hc
            go_wp2
            refine wp_loop_rounds 1 ?_
            rw [rounds_succ]
            go_wp2
            go_ret2
            exact ⟨⟨_, rfl, own_empty _⟩, hB2.out.1⟩
end Go.Proofs.YtnigkecpiolgeaaDoor.My
/- Words: slices of structs that are read, or made by appending; parts of rows loaded and stored; structs boxed. -/
set_option linter.unusedVariables false
set_option linter.unusedSimpArgs false
namespace Go.Proofs.YtnigkecpiolgeaaDoor.My
open Go.RowKit
theorem row_mid {w : World} {g : Nat} {pre mid post : List Value} {t : TypeId} {fr : Nat × Nat} (hg : w.heap[g]? = some (.cells (pre ++ (mid ++ post)).toArray t fr)) {o : Nat} (ho : pre.length = o) : w.rangeAt g o mid := fun j v hv => by
  have hj : j < mid.length := (List.getElem?_eq_some_iff.1 hv).1
  rw [cell_of_row w g (o + j) _ _ _ hg, List.getElem?_toArray, List.getElem?_append_right (by omega), List.getElem?_append_left (by omega), ← hv]
  congr 1
  omega
theorem setCells_mid {t : TypeId} (g : Nat) : ∀ (vs pre old post : List Value) (w : World), w.heap[g]? = some (.cells (pre ++ (old ++ post)).toArray t (0, 0)) → old.length = vs.length →
    (w.setCells g pre.length vs).heap[g]? = some (.cells (pre ++ (vs ++ post)).toArray t (0, 0)) ∧ Only g w (w.setCells g pre.length vs)
  | [], pre, old, post, w, hg, hl => by
    have : old = [] := List.eq_nil_of_length_eq_zero hl
    subst this
    exact ⟨hg, ⟨rfl, rfl, rfl, rfl, fun _ _ => rfl⟩⟩
  | v :: vs, pre, old, post, w, hg, hl => by
    obtain ⟨o, old, rfl⟩ : ∃ o r, old = o :: r := by cases old with | nil => simp at hl | cons o r => exact ⟨o, r, rfl⟩
    have h1 : (w.setCell ⟨g, pre.length, none⟩ v).heap[g]? = some (.cells ((pre ++ [v]) ++ (old ++ post)).toArray t (0, 0)) := by
      rw [setCell_eq_setRow w g pre.length _ t _ v hg, setRow_heap _ _ _ _ _ _ hg, List.setIfInBounds_toArray, List.set_append_right _ _ (Nat.le_refl _)]
      simp
    have ho : Only g w (w.setCell ⟨g, pre.length, none⟩ v) := by
      rw [setCell_eq_setRow w g pre.length _ t _ v hg]
      exact only_setRow _ _ _
    obtain ⟨h2, h3⟩ := setCells_mid g vs (pre ++ [v]) old post _ h1 (by simpa using hl)
    rw [World.setCells]
    simp only [List.length_append, List.length_cons, List.length_nil, Nat.zero_add] at h2 h3
    refine ⟨by simpa using h2, ⟨h3.os.trans ho.os, h3.tape.trans ho.tape, h3.output.trans ho.output, h3.size.trans ho.size, fun k hk => (h3.block k hk).trans (ho.block k hk)⟩⟩
theorem there_mid {w : World} {g : Nat} {pre mid post : List Value} {t : TypeId} (hg : w.heap[g]? = some (.cells (pre ++ (mid ++ post)).toArray t (0, 0))) {o : Nat} (ho : pre.length = o) : w.there g o mid.length := fun j hj => by
  refine ⟨?_, frozen_of_row w g (o + j) _ t hg⟩
  rw [row_mid hg ho j mid[j] (List.getElem?_eq_getElem hj)]
  rfl
section
variable {P : Program} {ops : Array Oper} {Q : Exit → Act → World → Prop} {rest : List Oper} {o : Oper} {a : Act} {w : World}
theorem partLoad (hw : Region.wanted o (yielded ops a.tmps) = true) (ty : TypeId) (x : Operand) (ho : o.op = .load ty x) (g off : Nat) (hx : a.eval x = .pointer (some ⟨g, off, none⟩))
    {cs : Array Value} {d : TypeDesc} (hr : w.rangeAt g off cs.toList) (hu : P.underlying ty = some d) (hd : d.isRow = true) (hi : (P.info? ty).map (·.size) = some cs.size)
    (h : wpList P ops Q rest (a.put o.dst (.agg cs)) w) : wpList P ops Q (o :: rest) a w :=
  wpList_step fun K hK => by
    rw [if_pos hw]
    exact wp_load_mid ty x ho g off hx cs.toList d hr hu hd (by simpa using hi) (hK _ _ (by simpa using h))
theorem partStore (hw : Region.wanted o (yielded ops a.tmps) = true) (ty : TypeId) (x y : Operand) (ho : o.op = .store ty x y) (g off : Nat) (hx : a.eval x = .pointer (some ⟨g, off, none⟩))
    (cs : Array Value) (hy : a.eval y = .agg cs) {pre old post : List Value} {t : TypeId} (hg : w.heap[g]? = some (.cells (pre ++ (old ++ post)).toArray t (0, 0))) (hp : pre.length = off) (hl : old.length = cs.size) (hi : (P.info? ty).map (·.size) = some cs.size) (h1 : cs.all (·.oneCell') = true)
    (h : ∀ w2 : World, w2.heap[g]? = some (.cells (pre ++ (cs.toList ++ post)).toArray t (0, 0)) → Only g w w2 → wpList P ops Q rest (a.put o.dst undef) w2) : wpList P ops Q (o :: rest) a w :=
  wpList_step fun K hK => by
    rw [if_pos hw]
    obtain ⟨h2, h3⟩ := setCells_mid g cs.toList pre old post w hg (by simpa using hl)
    subst hp
    exact wp_store_mid ty x y ho g pre.length cs hx hy (by have := there_mid hg rfl; rwa [hl] at this) hi h1 (hK _ _ (h _ h2 h3))
theorem wlBox (hw : Region.wanted o (yielded ops a.tmps) = true) (ty : TypeId) (x : Operand) (ho : o.op = .box ty x) (cs : Array Value) (hx : a.eval x = .agg cs)
    (h : ∀ (g : Nat) (w2 : World), w.heap.size ≤ g → g < w2.heap.size → w2.heap[g]? = some (.cells cs ty (0, 0)) → Below w.heap.size w w2 → wpList P ops Q rest (a.put o.dst (.pointer (some ⟨g, 0, none⟩))) w2) : wpList P ops Q (o :: rest) a w :=
  wpList_step fun K hK => by
    rw [if_pos hw]
    have hrun : (execOp a.eval o).run P w = .ok (.value (.pointer (some ⟨w.heap.size, 0, none⟩))) (w.alloc (.cells cs ty)) := by
      unfold execOp
      rw [ho]
      simp only [hx]
      rfl
    unfold Oper.wp
    rw [hrun]
    exact hK _ _ (h _ _ (Nat.le_refl _) (by simp) (heap_alloc_new _ _) ((Below.refl _ _).alloc (Nat.le_refl _) _))
theorem wlAlloc (hw : Region.wanted o (yielded ops a.tmps) = true) (ty : TypeId) (ho : o.op = .alloc ty) (cs : Array Value) (hz : ∀ w, (zeroValue ty).run P w = .ok (.agg cs) w)
    (h : ∀ (g : Nat) (w2 : World), w.heap.size ≤ g → g < w2.heap.size → w2.heap[g]? = some (.cells cs ty (0, 0)) → Below w.heap.size w w2 → wpList P ops Q rest (a.put o.dst (.pointer (some ⟨g, 0, none⟩))) w2) : wpList P ops Q (o :: rest) a w :=
  wpList_step fun K hK => by
    rw [if_pos hw]
    have hrun : (execOp a.eval o).run P w = .ok (.value (.pointer (some ⟨w.heap.size, 0, none⟩))) (w.alloc (.cells cs ty)) := by
      unfold execOp
      rw [ho]
      simp only [Instr.alloc, Sem.run_bind, hz, Result.andThen_ok]
      rfl
    unfold Oper.wp
    rw [hrun]
    exact hK _ _ (h _ _ (Nat.le_refl _) (by simp) (heap_alloc_new _ _) ((Below.refl _ _).alloc (Nat.le_refl _) _))
theorem opVal (hw : Region.wanted o (yielded ops a.tmps) = true) (v : Value) (hrun : (execOp a.eval o).run P w = .ok (.value v) w) (h : wpList P ops Q rest (a.put o.dst v) w) : wpList P ops Q (o :: rest) a w :=
  wpList_step fun K hK => by
    rw [if_pos hw]
    unfold Oper.wp
    rw [hrun]
    exact hK _ _ h
end
theorem rgCell {P : Program} {ops : Array Oper} {o : Oper} {a : Act} {w : World} {Q : Exit → Act → World → Prop} {K : Act → World → Prop} {E : Prop} (hw : Region.wanted o (yielded ops a.tmps) = true) (ty : TypeId) (x y : Operand) (ho : o.op = .store ty x y) (g j : Nat) (hx : a.eval x = .pointer (some ⟨g, j, none⟩))
    (v : Value) (hy : a.eval y = v) (hv : v.cells = #[v]) (hv1 : v.oneCell' = true) {t : TypeId} {cur : Array Value} (hg : w.heap[g]? = some (.cells cur t (0, 0))) (hj : j < cur.size) (hi : (P.info? ty).map (·.size) = some 1)
    (h : ∀ w2 : World, w2.heap[g]? = some (.cells (cur.setIfInBounds j v) t (0, 0)) → Only g w w2 → K (a.put o.dst undef) w2) : if Region.wanted o (yielded ops a.tmps) = true then Oper.wp P o a w K Q else E := by
  rw [if_pos hw]
  unfold Oper.wp execOp
  simp only [ho, hx, hy, Instr.storeAt, Instr.sureAddr, Sem.run_bind, Sem.run_pure, Result.andThen_ok, run_storeVar_one w g j ty v hv hv1 hg hj hi]
  exact h _ (setRow_heap _ _ _ _ _ _ hg) (only_setRow _ _ _)
theorem yieldsMid {P : Program} {ops : Array Oper} {S : World → Prop} {oi : Oper} {a : Act} (hw : Region.wanted oi (yielded ops a.tmps) = true) (ty : TypeId) (x : Operand) (ho : oi.op = .load ty x) (b off : Nat) (hx : a.eval x = .pointer (some ⟨b, off, none⟩)) (cs : Array Value) (hS : ∀ w, S w → w.rangeAt b off cs.toList)
    {d : TypeDesc} (hu : P.underlying ty = some d) (hd : d.isRow = true) (hi : (P.info? ty).map (·.size) = some cs.size) : YieldsIf P ops S oi (.agg cs) a := by
  have := yieldsIf_load_mid (ops := ops) hw ty x ho b off hx cs.toList d hS hu hd (by simpa using hi)
  simpa using this
theorem wlBuild {P : Program} {ops : Array Oper} {Q : Exit → Act → World → Prop} {rest : List Oper} {o : Oper} {a : Act} {w : World} (hw : Region.wanted o (yielded ops a.tmps) = true) (ty : TypeId) (parts : Array (Nat × Operand)) (ho : o.op = .build ty parts) (v : Value) (hrun : (execOp a.eval o).run P w = .ok (.value v) w) (h : wpList P ops Q rest (a.put o.dst v) w) : wpList P ops Q (o :: rest) a w :=
  opVal hw v hrun h
theorem wlIndex {P : Program} {ops : Array Oper} {Q : Exit → Act → World → Prop} {rest : List Oper} {o : Oper} {a : Act} {w : World} (hw : Region.wanted o (yielded ops a.tmps) = true) (ty : TypeId) (x i : Operand) (ho : o.op = .index ty x i) (v : Value) (hrun : (execOp a.eval o).run P w = .ok (.value v) w) (h : wpList P ops Q rest (a.put o.dst v) w) : wpList P ops Q (o :: rest) a w :=
  opVal hw v hrun h
theorem res2c {P : Program} {fn : Func} {p q v : Tmp} {ty ty2 : TypeId} (h : fn.results = #[.cell p ty, .cell q ty2, .tmp v]) (tmps : Array Value) (w : World) (g : Nat) (t : TypeId) (cs : Array Value) (fr : Nat × Nat) (d : TypeDesc) (g2 : Nat) (t2 : TypeId) (cs2 : Array Value) (fr2 : Nat × Nat) (d2 : TypeDesc)
    (hp : tmps.getD p undef = .pointer (some ⟨g, 0, none⟩)) (hg : w.heap[g]? = some (.cells cs t fr)) (hu : P.underlying ty = some d) (hd : d.isRow = true) (hi : (P.info? ty).map (·.size) = some cs.size)
    (hp2 : tmps.getD q undef = .pointer (some ⟨g2, 0, none⟩)) (hg2 : w.heap[g2]? = some (.cells cs2 t2 fr2)) (hu2 : P.underlying ty2 = some d2) (hd2 : d2.isRow = true) (hi2 : (P.info? ty2).map (·.size) = some cs2.size) :
    (results fn tmps).run P w = .ok (.tuple #[.agg cs, .agg cs2, tmps.getD v undef]) w := by
  have hp' : tmps[p]?.getD undef = .pointer (some ⟨g, 0, none⟩) := by simpa using hp
  have hp2' : tmps[q]?.getD undef = .pointer (some ⟨g2, 0, none⟩) := by simpa using hp2
  have hl := run_loadVar_row (P := P) w g t ty cs fr d hg hu (by cases d <;> first | rfl | exact hd) hi
  have hl2 := run_loadVar_row (P := P) w g2 t2 ty2 cs2 fr2 d2 hg2 hu2 (by cases d2 <;> first | rfl | exact hd2) hi2
  simp [results, h, hp', hp2', asAddr, hl, hl2]
theorem wlField {P : Program} {ops : Array Oper} {Q : Exit → Act → World → Prop} {rest : List Oper} {o : Oper} {a : Act} {w : World} (hw : Region.wanted o (yielded ops a.tmps) = true) (ty : TypeId) (x : Operand) (i : Nat) (ho : o.op = .field ty x i) (v : Value) (hrun : (Instr.field ty (a.eval x) i).run P w = .ok v w) (h : wpList P ops Q rest (a.put o.dst v) w) : wpList P ops Q (o :: rest) a w :=
  opVal hw v (by unfold execOp; rw [ho]; simp only [Sem.run_bind, hrun, Result.andThen_ok]; rfl) h
theorem range_below {w w' : World} {b o : Nat} {cs : List Value} (h : w.rangeAt b o cs) (hb : Below w.heap.size w w') : w'.rangeAt b o cs := fun j v hv => (hb.cell (World.block_lt_of_cell? w _ (h j v hv))).trans (h j v hv)
theorem range_block {w w' : World} {b o : Nat} {cs : List Value} (h : w.rangeAt b o cs) (hb : w'.heap[b]? = w.heap[b]?) : w'.rangeAt b o cs := fun j v hv => by
  have h1 := h j v hv
  unfold World.cell? at h1 ⊢
  simp only [hb]
  exact h1
/-- A slice of rows that is read: n rows of k cells. -/
def RwA (w : World) (A : Option Addr) (k n : Nat) (rows : List (Array Value)) : Prop :=
  rows.length = n ∧ (∀ r ∈ rows, r.size = k) ∧ (0 < n → ∃ b off, A = some ⟨b, off, none⟩ ∧ b < w.heap.size ∧ ∀ j r, rows[j]? = some r → w.rangeAt b (off + j * k) r.toList)
theorem RwA.below {w w' : World} {A : Option Addr} {k n : Nat} {rows : List (Array Value)} (h : RwA w A k n rows) (hb : Below w.heap.size w w') : RwA w' A k n rows :=
  ⟨h.1, h.2.1, fun hn => by
    obtain ⟨b, off, hA, hlt, hc⟩ := h.2.2 hn
    exact ⟨b, off, hA, Nat.lt_of_lt_of_le hlt hb.size, fun j r hr => range_below (hc j r hr) hb⟩⟩
theorem RwA.only2 {w w' : World} {A : Option Addr} {k n g : Nat} {rows : List (Array Value)} (h : RwA w A k n rows) (ho : Only g w w') (hg : ∀ a, A = some a → 0 < n → a.block ≠ g) : RwA w' A k n rows :=
  ⟨h.1, h.2.1, fun hn => by
    obtain ⟨b, off, hA, hlt, hc⟩ := h.2.2 hn
    exact ⟨b, off, hA, by rw [ho.size]; exact hlt, fun j r hr => range_block (hc j r hr) (ho.block b (hg _ hA hn))⟩⟩
theorem RwA.lt {w : World} {A : Option Addr} {k n : Nat} {rows : List (Array Value)} (h : RwA w A k n rows) : ∀ a, A = some a → 0 < n → a.block < w.heap.size := fun a ha hn => by
  obtain ⟨b, off, hA, hlt, hc⟩ := h.2.2 hn
  rw [hA] at ha
  injection ha with ha
  subst ha
  exact hlt
theorem RwA.drew {w : World} {A : Option Addr} {k n : Nat} {rows : List (Array Value)} (h : RwA w A k n rows) (m : Nat) : RwA (w.drewN m) A k n rows := h
theorem flat_get {k : Nat} : ∀ {rows : List (Array Value)}, (∀ r ∈ rows, r.size = k) → ∀ {j : Nat} {r : Array Value}, rows[j]? = some r → ∀ {i : Nat} {v : Value}, r.toList[i]? = some v → (rows.flatMap Array.toList)[j * k + i]? = some v
  | [], _, j, r, hr, _, _, _ => by simp at hr
  | a :: l, h, 0, r, hr, i, v, hv => by
    obtain rfl : a = r := by simpa using hr
    have hi : i < a.toList.length := (List.getElem?_eq_some_iff.1 hv).1
    rw [List.flatMap_cons, Nat.zero_mul, Nat.zero_add, List.getElem?_append_left hi]
    exact hv
  | a :: l, h, j + 1, r, hr, i, v, hv => by
    have ha : a.toList.length = k := by simpa using h a (by simp)
    have hr' : l[j]? = some r := by simpa using hr
    have := flat_get (fun r hr => h r (by simp [hr])) hr' hv
    rw [List.flatMap_cons, List.getElem?_append_right (by rw [ha, Nat.add_mul]; omega), ha]
    rw [show (j + 1) * k + i - k = j * k + i by rw [Nat.add_mul]; omega]
    exact this
theorem flat_len {k : Nat} : ∀ {rows : List (Array Value)}, (∀ r ∈ rows, r.size = k) → (rows.flatMap Array.toList).length = rows.length * k
  | [], _ => by simp
  | a :: l, h => by
    have ha : a.toList.length = k := by simpa using h a (by simp)
    rw [List.flatMap_cons, List.length_append, ha, flat_len (fun r hr => h r (by simp [hr])), List.length_cons, Nat.add_mul]
    omega
theorem addr_add (b off m : Nat) : (⟨b, off, none⟩ : Addr).add m = ⟨b, off + m, none⟩ := by unfold Addr.add; split <;> simp_all
/-- What a call has made by appending is read. -/
theorem RwA.of_own {w : World} {B k n : Nat} {e : TypeId} {v : Value} {rows : List (Array Value)} (hk : 0 < k) (hr : ∀ r ∈ rows, r.size = k) (h : w.ownsRow B e k v n (rows.flatMap Array.toList)) : ∃ A c, v = .slice A n c ∧ RwA w A k n rows ∧ Fresh B A ∧ rows.length = n := by
  have hl : rows.length = n := by
    have h1 := h.1
    rw [flat_len hr] at h1
    exact Nat.eq_of_mul_eq_mul_right hk h1
  rcases h.2 with ⟨rfl, rfl⟩ | ⟨g, cap, cur, rfl, hB, hcur, _⟩
  · exact ⟨none, 0, rfl, ⟨hl, hr, fun h => absurd h (Nat.lt_irrefl 0)⟩, (fun a ha => by cases ha), hl⟩
  · refine ⟨_, cap, rfl, ⟨hl, hr, fun hn => ⟨g, 0, rfl, (Array.getElem?_eq_some_iff.1 hcur).1, fun j r hj i v hv => ?_⟩⟩, (fun a ha => by injection ha with ha; subst ha; exact hB), hl⟩
    have hc := h.cells (g := g) rfl (j * k + i) v (flat_get hr hj hv)
    rw [addr_add] at hc
    rwa [show 0 + j * k + i = 0 + (j * k + i) by omega]
/-- What append leaves alone. -/
theorem keepAw {w w' : World} {g : Nat} {o : Obj} {r : Option Nat} (h : Hid (w.heap[g]? = some o)) (hg : w.grownBy w' r) (hne : some g ≠ r) : Hid (w'.heap[g]? = some o) := (hg.block g (Array.getElem?_eq_some_iff.1 h.out).1 hne).trans h.out
theorem keepBw {B : Nat} {w0 w w' : World} {r : Option Nat} (h : Hid (Below B w0 w ∧ B ≤ w.heap.size)) (hg : w.grownBy w' r) (hr : ∀ k, r = some k → B ≤ k) : Hid (Below B w0 w' ∧ B ≤ w'.heap.size) :=
  ⟨⟨hg.os.trans h.out.1.os, hg.tape.trans h.out.1.tape, hg.output.trans h.out.1.output, Nat.le_trans h.out.1.size hg.size, fun i hi => (hg.block i (Nat.lt_of_lt_of_le hi h.out.2) (fun e => by have := hr i e.symm; omega)).trans (h.out.1.block i hi)⟩, Nat.le_trans h.out.2 hg.size⟩
theorem RdA.grown {k : IntKind} {w w' : World} {A : Option Addr} {n : Nat} {xs : List Int} {r : Option Nat} (h : RdA k w A n xs) (hg : w.grownBy w' r) (hne : ∀ a, A = some a → 0 < n → some a.block ≠ r) : RdA k w' A n xs :=
  ⟨h.1, fun hn => by
    obtain ⟨b, off, hA, hc⟩ := h.2 hn
    exact ⟨b, off, hA, fun j hj => hg.cell (hc j hj) (show some b ≠ r from hne _ hA hn)⟩⟩
theorem RwA.grown {w w' : World} {A : Option Addr} {k n : Nat} {rows : List (Array Value)} {r : Option Nat} (h : RwA w A k n rows) (hg : w.grownBy w' r) (hne : ∀ a, A = some a → 0 < n → some a.block ≠ r) : RwA w' A k n rows :=
  ⟨h.1, h.2.1, fun hn => by
    obtain ⟨b, off, hA, hlt, hc⟩ := h.2.2 hn
    exact ⟨b, off, hA, Nat.lt_of_lt_of_le hlt hg.size, fun j r hr => range_block (hc j r hr) (hg.block b hlt (hne _ hA hn))⟩⟩
theorem ownk_below {w w' : World} {B e k n : Nat} {v : Value} {xs : List Value} (h : w.ownsRow B e k v n xs) (hb : Below w.heap.size w w') : w'.ownsRow B e k v n xs := by
  refine ⟨h.1, ?_⟩
  rcases h.2 with h | ⟨g, cap, cur, h1, h2, h3, h4⟩
  · exact .inl h
  · exact .inr ⟨g, cap, cur, h1, h2, (hb.block g (Array.getElem?_eq_some_iff.1 h3).1).trans h3, h4⟩
theorem ownk_only {w w' : World} {B e k g n : Nat} {v : Value} {xs : List Value} (h : w.ownsRow B e k v n xs) (hg : ∀ j, v.ownBlock = some j → j ≠ g) (ho : Only g w w') : w'.ownsRow B e k v n xs := by
  refine ⟨h.1, ?_⟩
  rcases h.2 with h | ⟨j, cap, cur, rfl, h2, h3, h4⟩
  · exact .inl h
  · exact .inr ⟨j, cap, cur, rfl, h2, (ho.block j (hg j rfl)).trans h3, h4⟩
theorem ownk_weak {w : World} {B B' e k n : Nat} {v : Value} {xs : List Value} (h : w.ownsRow B e k v n xs) (hB : B' ≤ B) : w.ownsRow B' e k v n xs := by
  refine ⟨h.1, ?_⟩
  rcases h.2 with h | ⟨g, cap, cur, h1, h2, h3⟩
  · exact .inl h
  · exact .inr ⟨g, cap, cur, h1, by omega, h3⟩
theorem ownk_drew {w : World} {B e k n : Nat} {v : Value} {xs : List Value} (h : w.ownsRow B e k v n xs) (m : Nat) : (w.drewN m).ownsRow B e k v n xs := h
/-- The address of an element. -/
theorem run_idx {P : Program} (w : World) (t e : TypeId) (k : Nat) (ht : P.underlying t = some (.slice e)) (hs : ∀ w, (sizeOf e).run P w = .ok k w) (b off n c i : Nat) (hi : i < n) : (Instr.indexAt t (.slice (some ⟨b, off, none⟩) n c) (.int .i64 i)).run P w = .ok (.pointer (some ⟨b, off + i * k, none⟩)) w := by
  have h0 : (0 : Int) ≤ (i : Int) ∧ (i : Int) < (n : Int) := ⟨by omega, by omega⟩
  unfold Instr.indexAt
  simp [asIntOf, run_underlying ht, hs, h0, addr_add]
  omega
section
variable {P : Program} {ops : Array Oper} {o : Oper} {a : Act} {w : World} {Q : Exit → Act → World → Prop} {rest : List Oper}
theorem wlIdx (hw : Region.wanted o (yielded ops a.tmps) = true) (t : TypeId) (x y : Operand) (ho : o.op = .indexAddr t x y) (e : TypeId) (k : Nat) (ht : P.underlying t = some (.slice e)) (hs : ∀ w, (sizeOf e).run P w = .ok k w) (b off n c i : Nat) (hx : a.eval x = .slice (some ⟨b, off, none⟩) n c) (hy : a.eval y = .int .i64 i) (hi : i < n)
    (h : wpList P ops Q rest (a.put o.dst (.pointer (some ⟨b, off + i * k, none⟩))) w) : wpList P ops Q (o :: rest) a w :=
  opVal hw _ (by
    unfold execOp
    rw [ho]
    simp only [hx, hy, Sem.run_bind, run_idx w t e k ht hs b off n c i hi, Result.andThen_ok]
    rfl) h
theorem yieldsIdx {S : World → Prop} {oi : Oper} {a : Act} (hw : Region.wanted oi (yielded ops a.tmps) = true) (t : TypeId) (x y : Operand) (ho : oi.op = .indexAddr t x y) (e : TypeId) (k : Nat) (ht : P.underlying t = some (.slice e)) (hs : ∀ w, (sizeOf e).run P w = .ok k w) (b off n c i : Nat) (hx : a.eval x = .slice (some ⟨b, off, none⟩) n c) (hy : a.eval y = .int .i64 i) (hi : i < n) : YieldsIf P ops S oi (.pointer (some ⟨b, off + i * k, none⟩)) a :=
  .inl ⟨hw, fun w _ => by
    unfold execOp
    rw [ho]
    simp only [hx, hy, Sem.run_bind, run_idx w t e k ht hs b off n c i hi, Result.andThen_ok]
    rfl⟩
/-- One element laid in a block of its own. -/
theorem wlLit (hw : Region.wanted o (yielded ops a.tmps) = true) (t : TypeId) (m : Nat) (parts : Array (Nat × Operand)) (ho : o.op = .buildSlice t m parts) (cs : Array Value) (e : TypeId)
    (hrun : ∀ w, (execOp a.eval o).run P w = .ok (.value (.slice (some ⟨w.heap.size, 0, none⟩) m m)) (w.alloc (.cells cs e)))
    (h : ∀ (g : Nat) (w2 : World), w.heap.size ≤ g → g < w2.heap.size → w2.heap[g]? = some (.cells cs e (0, 0)) → Below w.heap.size w w2 → wpList P ops Q rest (a.put o.dst (.slice (some ⟨g, 0, none⟩) m m)) w2) : wpList P ops Q (o :: rest) a w :=
  wpList_step fun K hK => by
    rw [if_pos hw]
    unfold Oper.wp
    rw [hrun]
    exact hK _ _ (h _ _ (Nat.le_refl _) (by simp) (heap_alloc_new _ _) ((Below.refl _ _).alloc (Nat.le_refl _) _))
theorem appRow (hgd : o.guard = none) (s x : Operand) (t e : TypeId) (z : Value) (k bytes : Nat) (ho : o.op = .call { callee := .builtin .append, args := #[s, x], argTypes := #[t, t] })
    (ht : P.underlying t = some (.slice e)) (hinfo : (P.info? e).map (fun i => (i.zero, i.size, i.bytes)) = some (some z, k, bytes)) (hzc : z.cells.size = k) (hk : 0 < k)
    (B : Nat) (v : Value) (n : Nat) (xs : List Value) (hs : a.eval s = v) (hown : w.ownsRow B e k v n xs) (cs : Array Value) (hcs : cs.size = k) (h1 : cs.all (·.oneCell') = true) (g c : Nat) {tt : TypeId} {fr : Nat × Nat}
    (hx : a.eval x = .slice (some ⟨g, 0, none⟩) 1 c) (hg : w.heap[g]? = some (.cells cs tt fr)) (h63 : n + 1 ≤ maxLen) (hb : (n + 1) * bytes ≤ 140737488355328) (hB : B ≤ w.heap.size)
    (h : ∀ (v' : Value) (w2 : World), w2.ownsRow B e k v' (n + 1) (xs ++ cs.toList) → w.grownBy w2 v.ownBlock → (v'.ownBlock = v.ownBlock ∨ v'.ownBlock = some w.heap.size) → wpList P ops Q rest (a.put o.dst v') w2) :
    wpList P ops Q (o :: rest) a w := by
  obtain ⟨i0, hi, hzz⟩ := Option.map_eq_some_iff.1 hinfo
  simp only [Prod.mk.injEq] at hzz
  obtain ⟨hz0, hz1, hz2⟩ := hzz
  refine wpList_append_own_at _ hgd s x t ho B e i0 z k bytes ht hi hz0 hz1 hz2 hzc hk v n xs hs hown ⟨g, 0, none⟩ 1 c cs.toList hx (by simp [hcs]) ?_ ?_ h63 hb hB ?_
  · intro j q hj
    rw [addr_add, cell_of_row w g (0 + j) _ _ _ hg, Nat.zero_add, ← Array.getElem?_toList]
    exact hj
  · intro q hq
    rw [Array.all_eq_true_iff_forall_mem] at h1
    exact h1 q (by simpa using hq)
  · intro v' w2 e1 e2 _ e4
    exact h v' w2 e1 e2 e4
end
section
variable {P : Program} {ops : Array Oper} {Q : Exit → Act → World → Prop} {md : Region.Mode} {S : World → Prop}
/-- Three may come up, in any order. -/
def threeOk (md : Region.Mode) (ops : Array Oper) (l l1 l2 l3 : Array Bool) (i j k : Nat) : Bool := decide (Region.ready md ops l = [i, j, k]) && (decide (l.setIfInBounds i true = l1) && (decide (l.setIfInBounds j true = l2) && decide (l.setIfInBounds k true = l3)))
theorem rgThree {i j k : Nat} {Ni Nj Nk : Option Tmp} {oi oj ok : Oper} {fuel : Nat} {l : Array Bool} {a : Act} {w : World} (l1 l2 l3 : Array Bool) (hi : ops[i]? = some oi) (hNi : oi.dst = Ni) (hj : ops[j]? = some oj) (hNj : oj.dst = Nj) (hk : ops[k]? = some ok) (hNk : ok.dst = Nk) (hc : threeOk md ops l l1 l2 l3 i j k = true)
    (h1 : ∀ K' : Act → World → Prop, Shut (∀ a w, S w → (Hid (S w) → wpAnyH P md ops Q S fuel l1 a w) → K' a w) → if Region.wanted oi (yielded ops a.tmps) = true then Oper.wp P oi a w K' Q else K' (a.put Ni undef) w)
    (h2 : ∀ K' : Act → World → Prop, Shut (∀ a w, S w → (Hid (S w) → wpAnyH P md ops Q S fuel l2 a w) → K' a w) → if Region.wanted oj (yielded ops a.tmps) = true then Oper.wp P oj a w K' Q else K' (a.put Nj undef) w)
    (h3 : ∀ K' : Act → World → Prop, Shut (∀ a w, S w → (Hid (S w) → wpAnyH P md ops Q S fuel l3 a w) → K' a w) → if Region.wanted ok (yielded ops a.tmps) = true then Oper.wp P ok a w K' Q else K' (a.put Nk undef) w) :
    wpAnyH P md ops Q S (fuel + 1) l a w := by
  unfold threeOk at hc
  rw [Bool.and_eq_true, Bool.and_eq_true, Bool.and_eq_true, decide_eq_true_eq, decide_eq_true_eq, decide_eq_true_eq, decide_eq_true_eq] at hc
  obtain ⟨h0, rfl, rfl, rfl⟩ := hc
  subst hNi; subst hNj; subst hNk
  exact wpAnyH_ready h0 (by simp) (AllReadyH.cons hi h1 (AllReadyH.cons hj h2 (AllReadyH.cons hk h3 AllReadyH.nil)))
end
theorem res1c {P : Program} {fn : Func} {p v : Tmp} {ty : TypeId} (h : fn.results = #[.cell p ty, .tmp v]) (tmps : Array Value) (w : World) (g : Nat) (t : TypeId) (cs : Array Value) (fr : Nat × Nat) (d : TypeDesc)
    (hp : tmps.getD p undef = .pointer (some ⟨g, 0, none⟩)) (hg : w.heap[g]? = some (.cells cs t fr)) (hu : P.underlying ty = some d) (hd : d.isRow = true) (hi : (P.info? ty).map (·.size) = some cs.size) :
    (results fn tmps).run P w = .ok (.tuple #[.agg cs, tmps.getD v undef]) w := by
  have hp' : tmps[p]?.getD undef = .pointer (some ⟨g, 0, none⟩) := by simpa using hp
  have hl := run_loadVar_row (P := P) w g t ty cs fr d hg hu (by cases d <;> first | rfl | exact hd) hi
  simp [results, h, hp', asAddr, hl]
theorem RwA.at_ {w : World} {b off k n : Nat} {rs : List (Array Value)} (h : RwA w (some ⟨b, off, none⟩) k n rs) (hn : 0 < n) {j : Nat} {r : Array Value} (hr : rs[j]? = some r) : w.rangeAt b (off + j * k) r.toList := by
  obtain ⟨b', off', hA, _, hc⟩ := h.2.2 hn
  injection hA with hA
  injection hA with h1 h2 _
  subst h1; subst h2
  exact hc j r hr
theorem res3 {P : Program} {fn : Func} {p u v : Tmp} {ty : TypeId} (h : fn.results = #[.cell p ty, .tmp u, .tmp v]) (tmps : Array Value) (w : World) (g : Nat) (t : TypeId) (cs : Array Value) (fr : Nat × Nat) (d : TypeDesc)
    (hp : tmps.getD p undef = .pointer (some ⟨g, 0, none⟩)) (hg : w.heap[g]? = some (.cells cs t fr)) (hu : P.underlying ty = some d) (hd : d.isRow = true) (hi : (P.info? ty).map (·.size) = some cs.size) :
    (results fn tmps).run P w = .ok (.tuple #[.agg cs, tmps.getD u undef, tmps.getD v undef]) w := by
  have hp' : tmps[p]?.getD undef = .pointer (some ⟨g, 0, none⟩) := by simpa using hp
  have hl := run_loadVar_row (P := P) w g t ty cs fr d hg hu (by cases d <;> first | rfl | exact hd) hi
  simp [results, h, hp', asAddr, hl]
end Go.Proofs.YtnigkecpiolgeaaDoor.My
/- Words of this chapter: images and their segments; walks: where a segment ends, may an image be, is it light. -/
set_option linter.unusedVariables false
set_option linter.unusedSimpArgs false
namespace Go.Proofs.YtnigkecpiolgeaaDoor.My
open Go.RowKit
/-- A segment. -/
structure SegV where
  at_ : Nat
  d : List UInt8
/-- A segment as it lies in memory. -/
structure SegM where
  at_ : Nat
  D : Option Addr
  c : Nat
  d : List UInt8
def SegM.v (m : SegM) : SegV := ⟨m.at_, m.d⟩
def sA (m : SegM) : Array Value := #[.int .u32 m.at_, .slice m.D m.d.length m.c]
def imA (st : Nat) (S : Option Addr) (n c : Nat) : Array Value := #[.int .u32 st, .slice S n c]
def SegOk (w : World) (m : SegM) : Prop := m.at_ < 4294967296 ∧ m.d.length ≤ 1000000 ∧ m.d.length ≤ m.c ∧ RdA .u8 w m.D m.d.length (ints m.d)
/-- A slice of segments that is read. -/
def RdSg (w : World) (A : Option Addr) (ms : List SegM) : Prop := RwA w A 2 ms.length (ms.map sA) ∧ ∀ m ∈ ms, SegOk w m
theorem RdSg.below {w w' : World} {A : Option Addr} {ms : List SegM} (h : RdSg w A ms) (hb : Below w.heap.size w w') : RdSg w' A ms :=
  ⟨h.1.below hb, fun m hm => ⟨(h.2 m hm).1, (h.2 m hm).2.1, (h.2 m hm).2.2.1, (h.2 m hm).2.2.2.below hb⟩⟩
theorem RdSg.get {w : World} {A : Option Addr} {ms : List SegM} (h : RdSg w A ms) {k : Nat} {m : SegM} (hm : ms[k]? = some m) : SegOk w m := h.2 m (List.mem_of_getElem? hm)
theorem sA_get {ms : List SegM} {k : Nat} {m : SegM} (h : ms[k]? = some m) : (ms.map sA)[k]? = some (sA m) := by simp [h]
theorem sA_one (m : SegM) : (sA m).all (·.oneCell') = true := by simp [sA, Value.oneCell']
theorem sizeSeg (w : World) : (sizeOf 51).run Tryd.prog w = .ok 2 w := by kernel_rfl
theorem infoSeg : (Tryd.prog.info? 51).map (·.size) = some 2 := by kernel_rfl
theorem infoIm : (Tryd.prog.info? 25).map (·.size) = some 2 := by kernel_rfl
theorem keepI {w w' : World} {A : Option Addr} {ms : List SegM} (h : Hid (RdSg w A ms)) (hb : Below w.heap.size w w') : Hid (RdSg w' A ms) := h.out.below hb
theorem end_any (m : SegM) (w : World) (h1 : m.at_ < 4294967296) (h2 : m.d.length ≤ 1000000) : Calls Tryd.prog 37 #[.agg (sA m)] w fun e w' => e = .returned (.int .i64 ((m.at_ + m.d.length : Nat) : Int)) ∧ Below w.heap.size w w' := by
  obtain ⟨a, D, c, d⟩ := m
  unfold sA
  simp only at h1 h2 ⊢
  generalize d.length = n at h2 ⊢
  go_enter Tryd.func37, Tryd.ntmps37
  go_wp2
  go_ret
  exact ⟨by go_num, (keepBa (startB w) _).out.1⟩
/-- May they be, behind this end? A code. -/
def rightR : List SegV → Nat → Nat
  | [], _ => 0
  | s :: r, last => if s.d.length = 0 then 1 else if 16384 < s.at_ + s.d.length then 3 else if s.at_ < last then 7 else rightR r (s.at_ + s.d.length)
def rightV (ss : List SegV) : Nat := if 64 < ss.length then 4 else rightR ss 0
theorem rightR_cons (m : SegM) (r : List SegV) (L : Nat) : rightR (m.v :: r) L = if m.d.length = 0 then 1 else if 16384 < m.at_ + m.d.length then 3 else if m.at_ < L then 7 else rightR r (m.at_ + m.d.length) := rfl
theorem drop_cons {α : Type} {l : List α} {k : Nat} {x : α} (h : l[k]? = some x) : l.drop k = x :: l.drop (k + 1) := by
  obtain ⟨h1, h2⟩ := List.getElem?_eq_some_iff.1 h
  rw [List.drop_eq_getElem_cons h1, h2]
set_option maxRecDepth 100000 in
set_option maxHeartbeats 1000000 in
theorem right_any (st c : Nat) (S : Option Addr) (ms : List SegM) (w : World) (hx : RdSg w S ms) (hmx : ms.length ≤ 9223372036854775807) : Calls Tryd.prog 18 #[.agg (imA st S ms.length c)] w fun e w' => e = .returned (.int .i64 (rightV (ms.map SegM.v))) ∧ Below w.heap.size w w' := by
  have HB := startB w
  have HX := Lib.hid hx
  clear hx
  obtain ⟨R, hR⟩ : ∃ R, rightV (ms.map SegM.v) = R := ⟨_, rfl⟩
  rw [hR]
  have HR := Lib.hid hR
  clear hR
  unfold imA
  go_enter Tryd.func18, Tryd.ntmps18
  by_cases h64 : 64 < ms.length
  · have hR' : R = 4 := by rw [← HR.out]; unfold rightV; rw [if_pos (by simpa using h64)]
    subst hR'
    go_wp2
    go_ret
    exact ⟨rfl, (keepBa HB _).out.1⟩
  · have HR2 : Hid (rightR (ms.map SegM.v) 0 = R) := Lib.hid (by have := HR.out; unfold rightV at this; rwa [if_neg (by simpa using h64)] at this)
    go_wp2
    replace HX := keepI HX ((Below.refl _ w).alloc (Nat.le_refl _) (.cells #[.int .u32 st, .slice S ms.length c] 25))
    replace HB := keepBa HB (.cells #[.int .u32 st, .slice S ms.length c] 25)
    clear HR
    go_loopw [3, 13] (fun l i wr => ∃ (k L : Nat), k ≤ ms.length ∧ i = .int .i64 k ∧ l = .int .i64 L ∧ L ≤ 16384 ∧ Hid (rightR ((ms.map SegM.v).drop k) L = R) ∧ Hid (RdSg wr S ms) ∧ Hid (Below w.heap.size w wr ∧ w.heap.size ≤ wr.heap.size)) (fun _ i _ => ms.length - (intOf i).toNat)
    case atStart => exact ⟨0, 0, Nat.zero_le _, rfl, rfl, Nat.zero_le _, HR2, HX, HB⟩
    case round =>
      clear HX HB HR2
      obtain ⟨k, L, hk, rfl, rfl, hL, HR, HX, HB⟩ := hrel
      by_cases hlt : k < ms.length
      · have hn0 : 0 < ms.length := by omega
        obtain ⟨m, hm⟩ : ∃ m, ms[k]? = some m := ⟨_, List.getElem?_eq_getElem hlt⟩
        obtain ⟨b, off, rfl, _, _⟩ := HX.out.1.2.2 hn0
        obtain ⟨a1, a2, _⟩ := HX.out.get hm
        have hr := HR.out
        rw [drop_cons (x := m.v) (by simp [hm]), rightR_cons] at hr
        have E : ∀ w, Calls Tryd.prog 37 #[.agg (sA m)] w fun e w' => e = .returned (.int .i64 ((m.at_ + m.d.length : Nat) : Int)) ∧ Below w.heap.size w w' := fun w => end_any m w a1 a2
        have HE := Lib.hid E
        clear E HR
        by_cases d0 : m.d.length = 0
        · rw [if_pos d0] at hr
          subst hr
          go_wp2_with (first | (refine wlIdx rfl 23 _ _ rfl 51 2 Tryd.underlying23 sizeSeg b off ms.length c k rfl rfl hlt ?_) | (refine partLoad rfl 51 _ rfl b (off + k * 2) rfl (cs := sA m) (HX.out.1.at_ hn0 (sA_get hm)) Tryd.underlying51 rfl infoSeg ?_) | (refine rowNew (old := _) rfl 51 _ _ rfl rfl (sA m) rfl infoSeg rfl (sA_one m) ?_; intro w2 ha hb; replace HX := keepI HX hb; replace HB := keepB HB hb; have HA := Lib.hid ha; have f0 : w2.cell? ⟨wr.heap.size, 0, none⟩ = some (.int .u32 m.at_) := cellA HA 0; have f1 : w2.cell? ⟨wr.heap.size, 1, none⟩ = some (.slice m.D m.d.length m.c) := cellA HA 1; clear ha hb) | (refine rowLoad rfl 51 _ rfl wr.heap.size rfl (cs := sA m) HA.out Tryd.underlying51 rfl infoSeg ?_) | (go_at_call 37; refine (HE.out _).mono ?_; rintro e w3 ⟨rfl, hb⟩; replace HX := keepI HX hb; replace HB := keepB HB hb; replace HA := keepA HA hb; have f2 : w3.cell? ⟨wr.heap.size, 0, none⟩ = some (.int .u32 m.at_) := cellA HA 0; have f3 : w3.cell? ⟨wr.heap.size, 1, none⟩ = some (.slice m.D m.d.length m.c) := cellA HA 1; clear hb))
          go_ret
          exact ⟨rfl, HB.out.1⟩
        · rw [if_neg d0] at hr
          by_cases d1 : 16384 < m.at_ + m.d.length
          · rw [if_pos d1] at hr
            subst hr
            go_wp2_with (first | (refine wlIdx rfl 23 _ _ rfl 51 2 Tryd.underlying23 sizeSeg b off ms.length c k rfl rfl hlt ?_) | (refine partLoad rfl 51 _ rfl b (off + k * 2) rfl (cs := sA m) (HX.out.1.at_ hn0 (sA_get hm)) Tryd.underlying51 rfl infoSeg ?_) | (refine rowNew (old := _) rfl 51 _ _ rfl rfl (sA m) rfl infoSeg rfl (sA_one m) ?_; intro w2 ha hb; replace HX := keepI HX hb; replace HB := keepB HB hb; have HA := Lib.hid ha; have f0 : w2.cell? ⟨wr.heap.size, 0, none⟩ = some (.int .u32 m.at_) := cellA HA 0; have f1 : w2.cell? ⟨wr.heap.size, 1, none⟩ = some (.slice m.D m.d.length m.c) := cellA HA 1; clear ha hb) | (refine rowLoad rfl 51 _ rfl wr.heap.size rfl (cs := sA m) HA.out Tryd.underlying51 rfl infoSeg ?_) | (go_at_call 37; refine (HE.out _).mono ?_; rintro e w3 ⟨rfl, hb⟩; replace HX := keepI HX hb; replace HB := keepB HB hb; replace HA := keepA HA hb; have f2 : w3.cell? ⟨wr.heap.size, 0, none⟩ = some (.int .u32 m.at_) := cellA HA 0; have f3 : w3.cell? ⟨wr.heap.size, 1, none⟩ = some (.slice m.D m.d.length m.c) := cellA HA 1; clear hb))
            go_ret
            exact ⟨rfl, HB.out.1⟩
          · rw [if_neg d1] at hr
            by_cases d2 : m.at_ < L
            · rw [if_pos d2] at hr
              subst hr
              go_wp2_with (first | (refine wlIdx rfl 23 _ _ rfl 51 2 Tryd.underlying23 sizeSeg b off ms.length c k rfl rfl hlt ?_) | (refine partLoad rfl 51 _ rfl b (off + k * 2) rfl (cs := sA m) (HX.out.1.at_ hn0 (sA_get hm)) Tryd.underlying51 rfl infoSeg ?_) | (refine rowNew (old := _) rfl 51 _ _ rfl rfl (sA m) rfl infoSeg rfl (sA_one m) ?_; intro w2 ha hb; replace HX := keepI HX hb; replace HB := keepB HB hb; have HA := Lib.hid ha; have f0 : w2.cell? ⟨wr.heap.size, 0, none⟩ = some (.int .u32 m.at_) := cellA HA 0; have f1 : w2.cell? ⟨wr.heap.size, 1, none⟩ = some (.slice m.D m.d.length m.c) := cellA HA 1; clear ha hb) | (refine rowLoad rfl 51 _ rfl wr.heap.size rfl (cs := sA m) HA.out Tryd.underlying51 rfl infoSeg ?_) | (go_at_call 37; refine (HE.out _).mono ?_; rintro e w3 ⟨rfl, hb⟩; replace HX := keepI HX hb; replace HB := keepB HB hb; replace HA := keepA HA hb; have f2 : w3.cell? ⟨wr.heap.size, 0, none⟩ = some (.int .u32 m.at_) := cellA HA 0; have f3 : w3.cell? ⟨wr.heap.size, 1, none⟩ = some (.slice m.D m.d.length m.c) := cellA HA 1; clear hb))
              go_ret
              exact ⟨rfl, HB.out.1⟩
            · rw [if_neg d2] at hr
              have HR := Lib.hid hr
              clear hr
              go_wp2_with (first | (refine wlIdx rfl 23 _ _ rfl 51 2 Tryd.underlying23 sizeSeg b off ms.length c k rfl rfl hlt ?_) | (refine partLoad rfl 51 _ rfl b (off + k * 2) rfl (cs := sA m) (HX.out.1.at_ hn0 (sA_get hm)) Tryd.underlying51 rfl infoSeg ?_) | (refine rowNew (old := _) rfl 51 _ _ rfl rfl (sA m) rfl infoSeg rfl (sA_one m) ?_; intro w2 ha hb; replace HX := keepI HX hb; replace HB := keepB HB hb; have HA := Lib.hid ha; have f0 : w2.cell? ⟨wr.heap.size, 0, none⟩ = some (.int .u32 m.at_) := cellA HA 0; have f1 : w2.cell? ⟨wr.heap.size, 1, none⟩ = some (.slice m.D m.d.length m.c) := cellA HA 1; clear ha hb) | (refine rowLoad rfl 51 _ rfl wr.heap.size rfl (cs := sA m) HA.out Tryd.underlying51 rfl infoSeg ?_) | (go_at_call 37; refine (HE.out _).mono ?_; rintro e w3 ⟨rfl, hb⟩; replace HX := keepI HX hb; replace HB := keepB HB hb; replace HA := keepA HA hb; have f2 : w3.cell? ⟨wr.heap.size, 0, none⟩ = some (.int .u32 m.at_) := cellA HA 0; have f3 : w3.cell? ⟨wr.heap.size, 1, none⟩ = some (.slice m.D m.d.length m.c) := cellA HA 1; clear hb))
              go_roundw
              case rel => exact ⟨k + 1, m.at_ + m.d.length, by omega, by go_num, rfl, by omega, HR, HX, HB⟩
              case measure => simp [intOf]; omega
      · obtain rfl : k = ms.length := by omega
        have hr := HR.out
        rw [List.drop_eq_nil_of_le (by simp), rightR] at hr
        subst hr
        go_wp2
        go_ret
        exact ⟨rfl, HB.out.1⟩
end Go.Proofs.YtnigkecpiolgeaaDoor.My
/- Walks: the sum of bytes, and of an address and bytes; a byte's two digits: program and reference. -/
set_option linter.unusedVariables false
set_option linter.unusedSimpArgs false
namespace Go.Proofs.YtnigkecpiolgeaaDoor.My
open Go.RowKit
theorem ints_len (l : List UInt8) : (ints l).length = l.length := by simp [ints]
theorem el_ints {l : List UInt8} {k : Nat} {c : UInt8} (h : l[k]? = some c) : el (ints l) k = (c.toNat : Int) := by simp [el, ints, h]
/-- What remains, behind a number. -/
def sumR : List UInt8 → Nat → Nat
  | [], n => n
  | c :: r, n => sumR r ((n + 256 - c.toNat) % 256)
def sumV (l : List UInt8) : Nat := sumR l 0
theorem sub_u8 (n : Nat) (c : UInt8) : IntKind.u8.wrap ((n : Int) - (c.toNat : Int)) = (((n + 256 - c.toNat) % 256 : Nat) : Int) := by
  have := c.toNat_lt
  rw [IntKind.wrap_u8]
  omega
theorem sumR_lt : ∀ (l : List UInt8) (n : Nat), n < 256 → sumR l n < 256
  | [], n, h => h
  | c :: r, n, _ => sumR_lt r _ (Nat.mod_lt _ (by decide))
theorem sum_any (A : Option Addr) (c : Nat) (l : List UInt8) (w : World) (hx : RdA .u8 w A l.length (ints l)) (hm : l.length ≤ 9223372036854775807) : Calls Tryd.prog 13 #[.slice A l.length c] w fun e w' => e = .returned (.int .u8 ((sumV l : Nat) : Int)) ∧ Below w.heap.size w w' := by
  have HX := Lib.hid hx
  have HB := startB w
  obtain ⟨R, hR⟩ : ∃ R, sumV l = R := ⟨_, rfl⟩
  rw [hR]
  have HR : Hid (sumR (l.drop 0) 0 = R) := Lib.hid (by rw [List.drop_zero]; exact hR)
  clear hR hx
  go_enter Tryd.func13, Tryd.ntmps13
  go_wp2
  go_loopw [3, 8] (fun s i wr => ∃ (k N : Nat), k ≤ l.length ∧ i = .int .i64 k ∧ s = .int .u8 N ∧ N < 256 ∧ Hid (sumR (l.drop k) N = R) ∧ Hid (RdA .u8 wr A l.length (ints l)) ∧ Hid (Below w.heap.size w wr ∧ w.heap.size ≤ wr.heap.size)) (fun _ i _ => l.length - (intOf i).toNat)
  case atStart => exact ⟨0, 0, Nat.zero_le _, rfl, rfl, by decide, HR, HX, HB⟩
  case round =>
    clear HX HB HR
    obtain ⟨k, N, hk, rfl, rfl, hN, HR, HX, HB⟩ := hrel
    by_cases hlt : k < l.length
    · obtain ⟨b, off, rfl, hc⟩ := HX.out.2 (by omega)
      obtain ⟨x, hxk⟩ : ∃ x, l[k]? = some x := ⟨_, List.getElem?_eq_getElem hlt⟩
      have e1 := hc k hlt
      rw [el_ints hxk] at e1
      have e2 := sub_u8 N x
      have hr := HR.out
      obtain ⟨h1, h2⟩ := List.getElem?_eq_some_iff.1 hxk
      rw [List.drop_eq_getElem_cons h1, h2, sumR] at hr
      have HR2 := Lib.hid hr
      obtain ⟨M, hM⟩ : ∃ M, (N + 256 - x.toNat) % 256 = M := ⟨_, rfl⟩
      have m1 : M < 256 := by omega
      rw [hM] at e2 HR2
      clear hc hr hM HR hxk h1 h2
      go_wp2
      go_roundw
      case rel => exact ⟨k + 1, M, by omega, by go_num, rfl, m1, HR2, HX, HB⟩
      case measure => simp [intOf]; omega
    · obtain rfl : k = l.length := by omega
      have hr := HR.out
      rw [List.drop_eq_nil_of_le (Nat.le_refl _), sumR] at hr
      subst hr
      go_wp2
      go_ret
      exact ⟨rfl, HB.out.1⟩
theorem rsums_any (A : Option Addr) (c : Nat) (l : List UInt8) (w : World) (hx : RdA .u8 w A l.length (ints l)) (hm : l.length ≤ 9223372036854775807) : Calls Tryd.prog 14 #[.slice A l.length c] w fun e w' => e = .returned (.int .u8 ((sumV l : Nat) : Int)) ∧ Below w.heap.size w w' := by
  have HX := Lib.hid hx
  have HB := startB w
  obtain ⟨R, hR⟩ : ∃ R, sumV l = R := ⟨_, rfl⟩
  rw [hR]
  have HR : Hid (sumR (l.drop 0) 0 = R) := Lib.hid (by rw [List.drop_zero]; exact hR)
  clear hR hx
  go_enter Tryd.func14, Tryd.ntmps14
  go_wp2
  go_loopw [3, 4] (fun s i wr => ∃ (k N : Nat), k ≤ l.length ∧ i = .int .i64 k ∧ s = .int .u8 N ∧ N < 256 ∧ Hid (sumR (l.drop k) N = R) ∧ Hid (RdA .u8 wr A l.length (ints l)) ∧ Hid (Below w.heap.size w wr ∧ w.heap.size ≤ wr.heap.size)) (fun _ i _ => l.length - (intOf i).toNat)
  case atStart => exact ⟨0, 0, Nat.zero_le _, rfl, rfl, by decide, HR, HX, HB⟩
  case round =>
    clear HX HB HR
    obtain ⟨k, N, hk, rfl, rfl, hN, HR, HX, HB⟩ := hrel
    by_cases hlt : k < l.length
    · obtain ⟨b, off, rfl, hc⟩ := HX.out.2 (by omega)
      obtain ⟨x, hxk⟩ : ∃ x, l[k]? = some x := ⟨_, List.getElem?_eq_getElem hlt⟩
      have e1 := hc k hlt
      rw [el_ints hxk] at e1
      have e2 := sub_u8 N x
      have hr := HR.out
      obtain ⟨h1, h2⟩ := List.getElem?_eq_some_iff.1 hxk
      rw [List.drop_eq_getElem_cons h1, h2, sumR] at hr
      have HR2 := Lib.hid hr
      obtain ⟨M, hM⟩ : ∃ M, (N + 256 - x.toNat) % 256 = M := ⟨_, rfl⟩
      have m1 : M < 256 := by omega
      rw [hM] at e2 HR2
      clear hc hr hM HR hxk h1 h2
      go_wp2
      go_roundw
      case rel => exact ⟨k + 1, M, by omega, by go_num, rfl, m1, HR2, HX, HB⟩
      case measure => simp [intOf]; omega
    · obtain rfl : k = l.length := by omega
      have hr := HR.out
      rw [List.drop_eq_nil_of_le (Nat.le_refl _), sumR] at hr
      subst hr
      go_wp2
      go_ret
      exact ⟨rfl, HB.out.1⟩
/-- Bytes that the call has made. -/
abbrev OwnB (w : World) (B : Nat) (v : Value) (l : List UInt8) : Prop := w.ownsRow B 5 1 v l.length ((ints l).map (Value.int .u8))
theorem OwnB.rd {w : World} {B : Nat} {v : Value} {l : List UInt8} (h : OwnB w B v l) : ∃ A c, v = .slice A l.length c ∧ RdA .u8 w A l.length (ints l) ∧ Fresh B A := RdA.of_own h
theorem infoB : (Tryd.prog.info? 5).map (fun i => (i.zero, i.size, i.bytes)) = some (some (.int .u8 0), 1, 1) := by kernel_rfl
theorem own_lit (w : World) (lit : Array Value) (l : List UInt8) (h : lit = ((ints l).map (Value.int .u8)).toArray) (hm : l.length ≤ maxLen) : OwnB (w.alloc (.cells lit 5)) w.heap.size (.slice (some ⟨w.heap.size, 0, none⟩) l.length l.length) l := by
  subst h
  refine ⟨by simp [ints], .inr ⟨w.heap.size, l.length, _, rfl, Nat.le_refl _, heap_alloc_new _ _, Nat.le_refl _, hm, by simp [ints], ?_⟩⟩
  rw [List.take_of_length_le (by simp [ints])]
section
variable {ops : Array Oper} {o : Oper} {a : Act} {w : World} {Q : Exit → Act → World → Prop} {rest : List Oper}
/-- append(v, x...): both of bytes; v the call's own; x nil or not empty. -/
theorem appB (hgd : o.guard = none) (s x : Operand) (ho : o.op = .call { callee := .builtin .append, args := #[s, x], argTypes := #[26, 26] })
    (B : Nat) (v : Value) (l : List UInt8) (hs : a.eval s = v) (hown : OwnB w B v l) (A : Option Addr) (c : Nat) (r : List UInt8) (hx : a.eval x = .slice A r.length c) (hr : RdA .u8 w A r.length (ints r)) (h0 : r.length = 0 → A = none ∧ c = 0)
    (hm : l.length + r.length ≤ 100000000) (hB : B ≤ w.heap.size)
    (h : ∀ (v' : Value) (w2 : World), OwnB w2 B v' (l ++ r) → w.grownBy w2 v.ownBlock → (v'.ownBlock = v.ownBlock ∨ v'.ownBlock = some w.heap.size) → wpList Tryd.prog ops Q rest (a.put o.dst v') w2) : wpList Tryd.prog ops Q (o :: rest) a w := by
  obtain ⟨i0, hi, hzz⟩ := Option.map_eq_some_iff.1 infoB
  simp only [Prod.mk.injEq] at hzz
  obtain ⟨hz0, hz1, hz2⟩ := hzz
  by_cases hn : r.length = 0
  · obtain ⟨rfl, rfl⟩ := h0 hn
    have hr0 : r = [] := List.eq_nil_of_length_eq_zero hn
    subst hr0
    refine wpList_append_own_none hgd s x 26 ho B 5 i0 1 Tryd.underlying26 hi v l.length _ hs hown hx ?_
    refine h v w (by rw [List.append_nil]; exact hown) ⟨rfl, rfl, rfl, Nat.le_refl _, fun _ _ _ => rfl⟩ (.inl rfl)
  · obtain ⟨ad, rfl, hsrc⟩ := hr.src (by simp [ints_len]; omega)
    refine wpList_append_own_at w hgd s x 26 ho B 5 i0 (.int .u8 0) 1 1 Tryd.underlying26 hi hz0 hz1 hz2 rfl (by omega) v l.length _ hs hown ad r.length c ((ints r).map (Value.int .u8)) hx (by simp [ints_len]) hsrc (ones_ma _ _) (by unfold maxLen; omega) (by omega) hB ?_
    intro v' w2 h1 h2 _ h4
    refine h v' w2 ?_ h2 h4
    unfold OwnB
    rw [List.length_append, show ints (l ++ r) = ints l ++ ints r by simp [ints], List.map_append]
    exact h1
end
/-- An address's bytes, the low one first. -/
def atL (u : Nat) : List UInt8 := [UInt8.ofNat (u % 256), UInt8.ofNat (u / 256 % 256), UInt8.ofNat (u / 65536 % 256), UInt8.ofNat (u / 16777216)]
theorem of_nat {n : Nat} (h : n < 256) : (((UInt8.ofNat n).toNat : Nat) : Int) = (n : Int) := by rw [UInt8.toNat_ofNat', Nat.mod_eq_of_lt (by omega)]
theorem atL_cells (u : Nat) (h : u < 4294967296) : (#[.int .u8 ((u : Int) % 256), .int .u8 ((u : Int) / 256 % 256), .int .u8 ((u : Int) / 65536 % 256), .int .u8 ((u : Int) / 16777216)] : Array Value) = ((ints (atL u)).map (Value.int .u8)).toArray := by
  simp only [atL, ints, List.map_cons, List.map_nil]
  rw [of_nat (show u % 256 < 256 by omega), of_nat (show u / 256 % 256 < 256 by omega), of_nat (show u / 65536 % 256 < 256 by omega), of_nat (show u / 16777216 < 256 by omega)]
  rfl
/-- .. the high one first. -/
def taL (u : Nat) : List UInt8 := [UInt8.ofNat (u / 16777216), UInt8.ofNat (u / 65536 % 256), UInt8.ofNat (u / 256 % 256), UInt8.ofNat (u % 256)]
theorem taL_cells (u : Nat) (h : u < 4294967296) : (#[.int .u8 ((u : Int) / 16777216), .int .u8 ((u : Int) / 65536 % 256), .int .u8 ((u : Int) / 256 % 256), .int .u8 ((u : Int) % 256)] : Array Value) = ((ints (taL u)).map (Value.int .u8)).toArray := by
  simp only [taL, ints, List.map_cons, List.map_nil]
  rw [of_nat (show u % 256 < 256 by omega), of_nat (show u / 256 % 256 < 256 by omega), of_nat (show u / 65536 % 256 < 256 by omega), of_nat (show u / 16777216 < 256 by omega)]
  rfl
/-- The sum of an address and bytes. -/
def ckV (u : Nat) (d : List UInt8) : Nat := sumV (atL u ++ d)
def totV : List UInt8 → Nat
  | [] => 0
  | c :: r => c.toNat + totV r
theorem sumR_tot : ∀ (l : List UInt8) (n : Nat), n < 256 → sumR l n = (n + 255 * totV l) % 256
  | [], n, h => by rw [sumR, totV, Nat.mul_zero, Nat.add_zero, Nat.mod_eq_of_lt h]
  | c :: r, n, h => by
    have hc := c.toNat_lt
    rw [sumR, sumR_tot r _ (Nat.mod_lt _ (by decide)), totV]
    omega
theorem totV_app (l m : List UInt8) : totV (l ++ m) = totV l + totV m := by
  induction l with
  | nil => simp [totV]
  | cons c l ih => rw [List.cons_append, totV, totV, ih]; omega
theorem ck_turn (u : Nat) (d : List UInt8) : sumV (taL u ++ d) = ckV u d := by
  unfold ckV sumV
  rw [sumR_tot _ _ (by decide), sumR_tot _ _ (by decide), totV_app, totV_app]
  simp only [atL, taL, totV]
  congr 1
  omega
theorem ckV_lt (u : Nat) (d : List UInt8) : ckV u d < 256 := sumR_lt _ _ (by decide)
theorem below_grown {w w' : World} {B g : Nat} (hg : w.grownBy w' (some g)) (hB : B ≤ w.heap.size) (h : B ≤ g) : Below B w w' :=
  ⟨hg.os, hg.tape, hg.output, hg.size, fun i hi => hg.block i (by omega) (fun e => by injection e with e; omega)⟩
theorem cks_any (u c : Nat) (A : Option Addr) (d : List UInt8) (w : World) (hu : u < 4294967296) (hr : RdA .u8 w A d.length (ints d)) (h0 : d.length = 0 → A = none ∧ c = 0) (hm : d.length ≤ 1000000) : Calls Tryd.prog 42 #[.int .u32 u, .slice A d.length c] w fun e w' => e = .returned (.int .u8 ((ckV u d : Nat) : Int)) ∧ Below w.heap.size w w' := by
  obtain ⟨L, hL⟩ : ∃ L, atL u = L := ⟨_, rfl⟩
  have hl4 : L.length = 4 := by rw [← hL]; rfl
  have HO : Hid (OwnB (w.alloc (.cells #[.int .u8 ((u : Int) % 256), .int .u8 ((u : Int) / 256 % 256), .int .u8 ((u : Int) / 65536 % 256), .int .u8 ((u : Int) / 16777216)] 5)) w.heap.size (.slice (some ⟨w.heap.size, 0, none⟩) 4 4) L) := Lib.hid (by have := own_lit w _ (atL u) (atL_cells u hu) (by unfold maxLen; show 4 ≤ _; omega); rw [hL, hl4] at this; exact this)
  have HR : Hid (RdA .u8 (w.alloc (.cells #[.int .u8 ((u : Int) % 256), .int .u8 ((u : Int) / 256 % 256), .int .u8 ((u : Int) / 65536 % 256), .int .u8 ((u : Int) / 16777216)] 5)) A d.length (ints d)) := Lib.hid (hr.below ((Below.refl _ _).alloc (Nat.le_refl _) _))
  have HB0 := keepBa (startB w) (.cells #[.int .u8 ((u : Int) % 256), .int .u8 ((u : Int) / 256 % 256), .int .u8 ((u : Int) / 65536 % 256), .int .u8 ((u : Int) / 16777216)] 5)
  have hm2 : L.length + d.length ≤ 100000000 := by omega
  obtain ⟨Z, hZ⟩ : ∃ Z, L ++ d = Z := ⟨_, rfl⟩
  have hl2 : Z.length ≤ 9223372036854775807 := by rw [← hZ, List.length_append]; omega
  have HZ := Lib.hid hZ
  unfold ckV
  rw [hL, hZ]
  clear hL hr hZ
  go_enter Tryd.func42, Tryd.ntmps42
  go_wp2_with (first | (refine appB rfl _ _ rfl w.heap.size _ L rfl HO.out A c d rfl HR.out h0 hm2 (by simp) ?_; intro v2 w3 ho hg _; rw [HZ.out] at ho; have HB := keepBw HB0 hg (by intro k hk; injection hk with hk; subst hk; exact Nat.le_refl _); obtain ⟨A2, c2, rfl, hr2, _⟩ := ho.rd) | (go_at_call 13; refine (sum_any A2 c2 _ _ hr2 hl2).mono ?_; rintro e w4 ⟨rfl, hb⟩; replace HB := keepB HB hb))
  go_ret
  exact ⟨rfl, HB.out.1⟩
theorem rcks_any (u c : Nat) (A : Option Addr) (d : List UInt8) (w : World) (hu : u < 4294967296) (hr : RdA .u8 w A d.length (ints d)) (h0 : d.length = 0 → A = none ∧ c = 0) (hm : d.length ≤ 1000000) : Calls Tryd.prog 30 #[.int .u32 u, .slice A d.length c] w fun e w' => e = .returned (.int .u8 ((ckV u d : Nat) : Int)) ∧ Below w.heap.size w w' := by
  rw [← ck_turn]
  obtain ⟨L, hL⟩ : ∃ L, taL u = L := ⟨_, rfl⟩
  have hl4 : L.length = 4 := by rw [← hL]; rfl
  have HO : Hid (OwnB (w.alloc (.cells #[.int .u8 ((u : Int) / 16777216), .int .u8 ((u : Int) / 65536 % 256), .int .u8 ((u : Int) / 256 % 256), .int .u8 ((u : Int) % 256)] 5)) w.heap.size (.slice (some ⟨w.heap.size, 0, none⟩) 4 4) L) := Lib.hid (by have := own_lit w _ (taL u) (taL_cells u hu) (by unfold maxLen; show 4 ≤ _; omega); rw [hL, hl4] at this; exact this)
  have HR : Hid (RdA .u8 (w.alloc (.cells #[.int .u8 ((u : Int) / 16777216), .int .u8 ((u : Int) / 65536 % 256), .int .u8 ((u : Int) / 256 % 256), .int .u8 ((u : Int) % 256)] 5)) A d.length (ints d)) := Lib.hid (hr.below ((Below.refl _ _).alloc (Nat.le_refl _) _))
  have HB0 := keepBa (startB w) (.cells #[.int .u8 ((u : Int) / 16777216), .int .u8 ((u : Int) / 65536 % 256), .int .u8 ((u : Int) / 256 % 256), .int .u8 ((u : Int) % 256)] 5)
  have hm2 : L.length + d.length ≤ 100000000 := by omega
  obtain ⟨Z, hZ⟩ : ∃ Z, L ++ d = Z := ⟨_, rfl⟩
  have hl2 : Z.length ≤ 9223372036854775807 := by rw [← hZ, List.length_append]; omega
  have HZ := Lib.hid hZ
  rw [hL, hZ]
  clear hL hr hZ
  have q0 : (u : Int).tdiv 16777216 = (u : Int) / 16777216 := Int.tdiv_eq_ediv_of_nonneg (by omega)
  have q1 : (u : Int).tdiv 65536 = (u : Int) / 65536 := Int.tdiv_eq_ediv_of_nonneg (by omega)
  have q2 : (u : Int).tdiv 256 = (u : Int) / 256 := Int.tdiv_eq_ediv_of_nonneg (by omega)
  have r0 : (u : Int).tmod 256 = (u : Int) % 256 := Int.tmod_eq_emod_of_nonneg (by omega)
  have r1 : ((u : Int) / 65536).tmod 256 = (u : Int) / 65536 % 256 := Int.tmod_eq_emod_of_nonneg (by omega)
  have r2 : ((u : Int) / 256).tmod 256 = (u : Int) / 256 % 256 := Int.tmod_eq_emod_of_nonneg (by omega)
  go_enter Tryd.func30, Tryd.ntmps30
  go_wp2_with (first | (refine appB rfl _ _ rfl w.heap.size _ L rfl HO.out A c d rfl HR.out h0 hm2 (by simp) ?_; intro v2 w3 ho hg _; rw [HZ.out] at ho; have HB := keepBw HB0 hg (by intro k hk; injection hk with hk; subst hk; exact Nat.le_refl _); obtain ⟨A2, c2, rfl, hr2, _⟩ := ho.rd) | (go_at_call 14; refine (rsums_any A2 c2 _ _ hr2 hl2).mono ?_; rintro e w4 ⟨rfl, hb⟩; replace HB := keepB HB hb))
  go_ret
  exact ⟨rfl, HB.out.1⟩
end Go.Proofs.YtnigkecpiolgeaaDoor.My
