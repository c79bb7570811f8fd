/- Words of this session: whole rows (structs, arrays) loaded and stored, with the world left abstract. -/
import Derived.Test.YtaclidjhgpkmpaaDoorRegWords
namespace Go.Proofs.YtaclidjhgpkmpaaDoor.My
open Go.RowKit

/-- Only block g has turned. -/
structure Only (g : Nat) (w w' : World) : Prop where
  os : w'.os = w.os
  tape : w'.tape = w.tape
  output : w'.output = w.output
  size : w'.heap.size = w.heap.size
  block : ∀ k, k ≠ g → w'.heap[k]? = w.heap[k]?

theorem keepBo {B g : Nat} {w0 w w' : World} (h : Hid (Below B w0 w ∧ B ≤ w.heap.size)) (hg : B ≤ g) (ho : Only g w w') : Hid (Below B w0 w' ∧ B ≤ w'.heap.size) :=
  ⟨⟨ho.os.trans h.out.1.os, ho.tape.trans h.out.1.tape, ho.output.trans h.out.1.output, by rw [ho.size]; exact h.out.1.size, fun i hi => (ho.block i (by omega)).trans (h.out.1.block i hi)⟩, by rw [ho.size]; exact h.out.2⟩
theorem keepAo {g k : Nat} {w w' : World} {o : Obj} (h : Hid (w.heap[k]? = some o)) (hk : k ≠ g) (ho : Only g w w') : Hid (w'.heap[k]? = some o) := (ho.block k hk).trans h.out
theorem only_setRow (w : World) (g : Nat) (cs : Array Value) : Only g w (w.setRow g cs) := ⟨rfl, rfl, rfl, by simp, fun k hk => setRow_other _ _ _ _ hk⟩
theorem keepBd {B : Nat} {w0 w : World} (h : Hid (Below B w0 w ∧ B ≤ w.heap.size)) (n : Nat) : Hid (Below B w0 (w.drewN n) ∧ B ≤ (w.drewN n).heap.size) := ⟨below_dn h.out.1 n, h.out.2⟩
theorem keepB1 {B : Nat} {w0 w : World} (h : Hid (Below B w0 w ∧ B ≤ w.heap.size)) : Hid (Below B w0 w.drew ∧ B ≤ w.drew.heap.size) := ⟨below_dn h.out.1 1, h.out.2⟩
theorem keepBa {B : Nat} {w0 w : World} (h : Hid (Below B w0 w ∧ B ≤ w.heap.size)) (o : Obj) : Hid (Below B w0 (w.alloc o) ∧ B ≤ (w.alloc o).heap.size) := ⟨h.out.1.alloc h.out.2 o, by simp; have := h.out.2; omega⟩
theorem keepAa {k : Nat} {w : World} {o : Obj} (h : Hid (w.heap[k]? = some o)) (o' : Obj) : Hid ((w.alloc o').heap[k]? = some o) := by
  have hlt : k < w.heap.size := (Array.getElem?_eq_some_iff.1 h.out).1
  show (w.heap.push o')[k]? = _
  rw [Array.getElem?_push, if_neg (Nat.ne_of_lt hlt)]
  exact h.out
theorem startB (w : World) : Hid (Below w.heap.size w w ∧ w.heap.size ≤ w.heap.size) := ⟨Below.refl _ _, Nat.le_refl _⟩

section
variable {P : Program} {ops : Array Oper} {Q : Exit → Act → World → Prop} {rest : List Oper} {o : Oper} {a : Act} {w : World}
theorem rowLoad (hw : Region.wanted o (yielded ops a.tmps) = true) (ty : TypeId) (x : Operand) (ho : o.op = .load ty x) (g : Nat) (hx : a.eval x = .pointer (some ⟨g, 0, none⟩))
    {t : TypeId} {cs : Array Value} {fr : Nat × Nat} {d : TypeDesc} (hg : w.heap[g]? = some (.cells cs t fr)) (hu : P.underlying ty = some d) (hd : d.isRow = true) (hi : (P.info? ty).map (·.size) = some cs.size)
    (h : wpList P ops Q rest (a.put o.dst (.agg cs)) w) : wpList P ops Q (o :: rest) a w :=
  wpList_step fun K hK => by
    rw [if_pos hw]
    exact wp_load_row ty x ho g hx t cs fr d hg hu (by cases d <;> first | rfl | exact hd) hi (hK _ _ h)
theorem rowStore (hw : Region.wanted o (yielded ops a.tmps) = true) (ty : TypeId) (x y : Operand) (ho : o.op = .store ty x y) (g : Nat) (hx : a.eval x = .pointer (some ⟨g, 0, none⟩))
    (cells : Array Value) (hy : a.eval y = .agg cells) {t : TypeId} {old : Array Value} (hg : w.heap[g]? = some (.cells old t (0, 0))) (hi : (P.info? ty).map (·.size) = some cells.size) (hold : old.size = cells.size) (h1 : cells.all (·.oneCell') = true)
    (h : ∀ w2 : World, w2.heap[g]? = some (.cells cells t (0, 0)) → Only g w w2 → wpList P ops Q rest (a.put o.dst undef) w2) : wpList P ops Q (o :: rest) a w :=
  wpList_step fun K hK => by
    rw [if_pos hw]
    exact wp_store_row ty x y ho g cells hx hy t old hg hi hold h1 (hK _ _ (h _ (setRow_heap _ _ _ _ _ _ hg) (only_setRow _ _ _)))
/-- A new variable, and what is laid into it. -/
theorem rowNew {w1 : World} {t : TypeId} {old : Array Value} (hw : Region.wanted o (yielded ops a.tmps) = true) (ty : TypeId) (x y : Operand) (ho : o.op = .store ty x y) (hx : a.eval x = .pointer (some ⟨w1.heap.size, 0, none⟩))
    (cells : Array Value) (hy : a.eval y = .agg cells) (hi : (P.info? ty).map (·.size) = some cells.size) (hold : old.size = cells.size) (h1 : cells.all (·.oneCell') = true)
    (h : ∀ w2 : World, w2.heap[w1.heap.size]? = some (.cells cells t (0, 0)) → Below w1.heap.size w1 w2 → wpList P ops Q rest (a.put o.dst undef) w2) : wpList P ops Q (o :: rest) a (w1.alloc (.cells old t)) :=
  wpList_step fun K hK => by
    rw [if_pos hw]
    exact wp_store_row ty x y ho w1.heap.size cells hx hy t old (heap_alloc_new _ _) hi hold h1 (hK _ _ (h _ (setRow_heap _ _ _ _ _ _ (heap_alloc_new _ _)) (below_setRow ((Below.refl _ _).alloc (Nat.le_refl _) _) (Nat.le_refl _) _)))
end
section
variable {P : Program} {ops : Array Oper} {S : World → Prop}
/-- The load of a whole row, in a region that draws its order: S says what the block holds. -/
theorem yieldsRow {oi : Oper} {a : Act} (hw : Region.wanted oi (yielded ops a.tmps) = true) (ty : TypeId) (x : Operand) (ho : oi.op = .load ty x) (g : Nat) (hx : a.eval x = .pointer (some ⟨g, 0, none⟩))
    {t : TypeId} {cs : Array Value} {fr : Nat × Nat} {d : TypeDesc} (hS : ∀ w, S w → w.heap[g]? = some (.cells cs t fr)) (hu : P.underlying ty = some d) (hd : d.isRow = true) (hi : (P.info? ty).map (·.size) = some cs.size) : YieldsIf P ops S oi (.agg cs) a :=
  .inl ⟨hw, fun w hw' => by
    unfold execOp
    simp only [ho, hx, Instr.loadAt, Instr.sureAddr, Sem.run_bind, Sem.run_pure, Result.andThen_ok, run_loadVar_row w g t ty cs fr d (hS w hw') hu (by cases d <;> first | rfl | exact hd) hi]⟩
end
theorem cellA {w : World} {g : Nat} {cs : Array Value} {t : TypeId} {fr : Nat × Nat} (h : Hid (w.heap[g]? = some (.cells cs t fr))) (j : Nat) : w.cell? ⟨g, j, none⟩ = cs[j]? := cell_of_row w g j cs t fr h.out

end Go.Proofs.YtaclidjhgpkmpaaDoor.My
