/- Words of this session: slices of whole numbers that are read, told by the list of their numbers; new ones; stores of rows in drawn regions. -/
import Derived.Test.YtaclidjhgpkmpaaDoorRowWords
import Derived.Laws.CopyOwn
import Derived.Laws.AppendOwn
import Derived.Deep.AppendLies
import Derived.Deep.OwnRows
namespace Go.Proofs.YtaclidjhgpkmpaaDoor.My
open Go.RowKit

/-- Element i. -/
def el (xs : List Int) (i : Nat) : Int := (xs[i]?).getD 0
theorem el_at {xs : List Int} {i : Nat} (h : i < xs.length) : xs[i]? = some (el xs i) := by simp [el, List.getElem?_eq_getElem h]
theorem ext_el {xs ys : List Int} (hx : xs.length = ys.length) (h : ∀ k, k < xs.length → el xs k = el ys k) : xs = ys := by
  apply List.ext_getElem hx
  intro k h1 h2
  have := h k h1
  simpa [el, List.getElem?_eq_getElem h1, List.getElem?_eq_getElem h2] using this
theorem el_set_same {xs : List Int} {i : Nat} (h : i < xs.length) (v : Int) : el (xs.set i v) i = v := by simp [el, List.getElem?_set_self h]
theorem el_set_other {xs : List Int} {i j : Nat} (h : i ≠ j) (v : Int) : el (xs.set i v) j = el xs j := by simp [el, List.getElem?_set_ne h]

/-- A slice of numbers that is read, of n numbers. -/
def RdA (k : IntKind) (w : World) (A : Option Addr) (n : Nat) (xs : List Int) : Prop :=
  xs.length = n ∧ (0 < n → ∃ b off, A = some ⟨b, off, none⟩ ∧ ∀ j, j < n → w.cell? ⟨b, off + j, none⟩ = some (.int k (el xs j)))
theorem RdA.below {k : IntKind} {w w' : World} {A : Option Addr} {n : Nat} {xs : List Int} (h : RdA k w A n xs) (hb : Below w.heap.size w w') : RdA k w' A n xs :=
  ⟨h.1, fun hn => by
    obtain ⟨b, off, rfl, hc⟩ := h.2 hn
    exact ⟨b, off, rfl, fun j hj => (hb.cell (World.block_lt_of_cell? w _ (hc j hj))).trans (hc j hj)⟩⟩
/-- The slice's memory lies from block B on. -/
def Fresh (B : Nat) (A : Option Addr) : Prop := ∀ a, A = some a → B ≤ a.block
theorem RdA.only {k : IntKind} {w w' : World} {A : Option Addr} {n g : Nat} {xs : List Int} (h : RdA k w A n xs) (ho : Only g w w') (hg : Fresh (g + 1) A) : RdA k w' A n xs :=
  ⟨h.1, fun hn => by
    obtain ⟨b, off, rfl, hc⟩ := h.2 hn
    have hbg : b ≠ g := by have := hg _ rfl; simp at this; omega
    refine ⟨b, off, rfl, fun j hj => ?_⟩
    have h1 := hc j hj
    unfold World.cell? at h1 ⊢
    simp only [ho.block b hbg]
    exact h1⟩
theorem RdA.only2 {k : IntKind} {w w' : World} {A : Option Addr} {n g : Nat} {xs : List Int} (h : RdA k w A n xs) (ho : Only g w w') (hg : ∀ a, A = some a → 0 < n → a.block ≠ g) : RdA k w' A n xs :=
  ⟨h.1, fun hn => by
    obtain ⟨b, off, rfl, hc⟩ := h.2 hn
    have hbg : b ≠ g := hg _ rfl hn
    refine ⟨b, off, rfl, fun j hj => ?_⟩
    have h1 := hc j hj
    unfold World.cell? at h1 ⊢
    simp only [ho.block b hbg]
    exact h1⟩
theorem RdA.lt {k : IntKind} {w : World} {A : Option Addr} {n : Nat} {xs : List Int} (h : RdA k w A n xs) : ∀ a, A = some a → 0 < n → a.block < w.heap.size := fun a ha hn => by
  obtain ⟨b, off, hA, hc⟩ := h.2 hn
  rw [hA] at ha
  injection ha with ha
  subst ha
  exact World.block_lt_of_cell? w _ (hc 0 hn)
theorem Fresh.mono {B B' : Nat} {A : Option Addr} (h : Fresh B A) (hB : B' ≤ B) : Fresh B' A := fun a ha => Nat.le_trans hB (h a ha)
theorem RdA.drew {k : IntKind} {w : World} {A : Option Addr} {n : Nat} {xs : List Int} (h : RdA k w A n xs) (m : Nat) : RdA k (w.drewN m) A n xs := h
theorem RdA.of_row {k : IntKind} {w : World} {g n : Nat} {xs : List Int} {t : TypeId} {fr : Nat × Nat} (hl : xs.length = n) (h : w.heap[g]? = some (.cells (ma k xs) t fr)) : RdA k w (some ⟨g, 0, none⟩) n xs :=
  ⟨hl, fun _ => ⟨g, 0, rfl, fun j hj => by
    rw [cell_of_row w g (0 + j) _ _ _ h, Nat.zero_add]
    simp [ma, el_at (show j < xs.length by omega)]⟩⟩
theorem RdA.of_own {k : IntKind} {w : World} {B n : Nat} {e : TypeId} {v : Value} {xs : List Int} (h : w.ownsRow B e 1 v n (xs.map (Value.int k))) : ∃ A c, v = .slice A n c ∧ RdA k w A n xs ∧ Fresh B A := by
  have hl : xs.length = n := by have := h.1; simpa using this
  rcases h.2 with ⟨rfl, hn⟩ | ⟨g, cap, cur, rfl, hB, _⟩
  · have : n = 0 := by simpa [hl] using hn
    subst this
    exact ⟨none, 0, rfl, ⟨hl, fun h => absurd h (Nat.lt_irrefl 0)⟩, fun a ha => by cases ha⟩
  · refine ⟨_, cap, rfl, ⟨hl, fun hn => ⟨g, 0, rfl, fun j hj => ?_⟩⟩, fun a ha => by injection ha with ha; subst ha; exact hB⟩
    have hc := h.cells (g := g) rfl j (.int k (el xs j)) (by simp [el_at (show j < xs.length by omega)])
    have ha : (⟨g, 0, none⟩ : Addr).add j = ⟨g, 0 + j, none⟩ := by unfold Addr.add; split <;> simp_all
    rwa [ha] at hc

section
variable {P : Program} {ops : Array Oper} {o : Oper} {a : Act} {w : World} {K : Act → World → Prop} {Q : Exit → Act → World → Prop} {E : Prop}
/-- A row stored, in a region that draws its order. -/
theorem rgStore (hw : Region.wanted o (yielded ops a.tmps) = true) (ty : TypeId) (x y : Operand) (ho : o.op = .store ty x y) (g : Nat) (hx : a.eval x = .pointer (some ⟨g, 0, none⟩))
    (cells : Array Value) (hy : a.eval y = .agg cells) {t : TypeId} {old : Array Value} (hg : w.heap[g]? = some (.cells old t (0, 0))) (hi : (P.info? ty).map (·.size) = some cells.size) (hold : old.size = cells.size) (h1 : cells.all (·.oneCell') = true)
    (h : ∀ w2 : World, w2.heap[g]? = some (.cells cells t (0, 0)) → Only g w w2 → K (a.put o.dst undef) w2) : if Region.wanted o (yielded ops a.tmps) = true then Oper.wp P o a w K Q else E := by
  rw [if_pos hw]
  exact wp_store_row ty x y ho g cells hx hy t old hg hi hold h1 (h _ (setRow_heap _ _ _ _ _ _ hg) (only_setRow _ _ _))
end
section
variable {P : Program} {ops : Array Oper} {o : Oper} {a : Act} {w : World} {Q : Exit → Act → World → Prop} {rest : List Oper}
theorem run_storeVar_one (w : World) (g j : Nat) (ty : TypeId) (v : Value) (hv : v.cells = #[v]) (hv1 : v.oneCell' = true) {t : TypeId} {cur : Array Value} (hg : w.heap[g]? = some (.cells cur t (0, 0))) (hj : j < cur.size) (hi : (P.info? ty).map (·.size) = some 1) :
    (storeVar ty ⟨g, j, none⟩ v).run P w = .ok () (w.setRow g (cur.setIfInBounds j v)) := by
  have hc : (w.cell? ⟨g, j, none⟩).isSome = true := by rw [cell_of_row w g j cur t _ hg]; simp [hj]
  have hf : w.frozen? ⟨g, j, none⟩ = false := frozen_of_row w g j cur t hg
  have := run_storeCells_cells (P := P) g j [v] 0 w (fun i hi => by
      have : i = 0 := by simpa using hi
      subst this; simpa using hc) (fun i hi => by
      have : i = 0 := by simpa using hi
      subst this; simpa using hf) (fun u hu => by
      have : u = v := by simpa using hu
      subst this; exact hv1)
  have he : w.setCells g (j + 0) [v] = w.setRow g (cur.setIfInBounds j v) := by
    rw [← setCell_eq_setRow w g j cur t _ v hg]; rfl
  rw [he] at this
  cases hq : P.info? ty with
  | none => simp [hq] at hi
  | some i =>
    have hs : i.size = 1 := by simpa [hq] using hi
    simp [storeVar, sizeOf, typeInfo, hq, hv, hs, this]
/-- One cell stored: an element, a field. -/
theorem cellStore (hw : Region.wanted o (yielded ops a.tmps) = true) (ty : TypeId) (x y : Operand) (ho : o.op = .store ty x y) (g j : Nat) (hx : a.eval x = .pointer (some ⟨g, j, none⟩))
    (v : Value) (hy : a.eval y = v) (hv : v.cells = #[v]) (hv1 : v.oneCell' = true) {t : TypeId} {cur : Array Value} (hg : w.heap[g]? = some (.cells cur t (0, 0))) (hj : j < cur.size) (hi : (P.info? ty).map (·.size) = some 1)
    (h : ∀ w2 : World, w2.heap[g]? = some (.cells (cur.setIfInBounds j v) t (0, 0)) → Only g w w2 → wpList P ops Q rest (a.put o.dst undef) w2) : wpList P ops Q (o :: rest) a w :=
  wpList_step fun K hK => by
    rw [if_pos hw]
    unfold Oper.wp execOp
    simp only [ho, hx, hy, Instr.storeAt, Instr.sureAddr, Sem.run_bind, Sem.run_pure, Result.andThen_ok, run_storeVar_one w g j ty v hv hv1 hg hj hi]
    exact hK _ _ (h _ (setRow_heap _ _ _ _ _ _ hg) (only_setRow _ _ _))
end
theorem made_rep (z : Value) (n : Nat) : madeCells #[z] n = (List.replicate n z).toArray := by
  apply Array.ext'
  apply List.ext_getElem
  · simp [madeCells]
  · intro i h1 h2
    simp [madeCells, Nat.mod_one]
theorem RdA.src {k : IntKind} {w : World} {A : Option Addr} {n : Nat} {xs : List Int} (h : RdA k w A n xs) (hp : 0 < (xs.map (Value.int k)).length) : ∃ ad, A = some ad ∧ ∀ j v, (xs.map (Value.int k))[j]? = some v → w.cell? (ad.add j) = some v := by
  obtain ⟨b, off, rfl, hc⟩ := h.2 (by have := h.1; simp at hp; omega)
  refine ⟨_, rfl, fun j v hv => ?_⟩
  have ha : (⟨b, off, none⟩ : Addr).add j = ⟨b, off + j, none⟩ := by unfold Addr.add; split <;> simp_all
  have hj : j < xs.length := by
    rcases Nat.lt_or_ge j xs.length with h | h
    · exact h
    · rw [List.getElem?_eq_none (by simpa using h)] at hv; cases hv
  rw [ha, hc j (by have := h.1; omega)]
  simp [List.getElem?_eq_getElem hj] at hv
  rw [← hv]; simp [el, List.getElem?_eq_getElem hj]
theorem ones_ma (k : IntKind) (xs : List Int) : ∀ v ∈ xs.map (Value.int k), v.oneCell' = true := by
  intro v hv
  obtain ⟨x, _, rfl⟩ := List.mem_map.1 hv
  rfl
theorem RdA.of_cur {k : IntKind} {w : World} {g n : Nat} {xs : List Int} {cur : Array Value} {t : TypeId} {fr : Nat × Nat} (hl : xs.length = n) (h : w.heap[g]? = some (.cells cur t fr)) (hc : cur.toList.take n = xs.map (Value.int k)) : RdA k w (some ⟨g, 0, none⟩) n xs :=
  ⟨hl, fun _ => ⟨g, 0, rfl, fun j hj => by
    rw [cell_of_row w g (0 + j) _ _ _ h, Nat.zero_add, ← Array.getElem?_toList]
    have h1 : (cur.toList.take n)[j]? = cur.toList[j]? := List.getElem?_take_of_lt hj
    rw [← h1, hc]
    simp [el_at (show j < xs.length by omega)]⟩⟩
theorem cur_set {k : IntKind} {n i : Nat} {xs : List Int} {cur : Array Value} {p : Int} (hc : cur.toList.take n = xs.map (Value.int k)) : (cur.setIfInBounds i (.int k p)).toList.take n = (xs.set i p).map (Value.int k) := by
  rw [Array.toList_setIfInBounds, List.take_set, hc, List.map_set]
section
variable {P : Program} {ops : Array Oper} {o : Oper} {a : Act} {w : World} {Q : Exit → Act → World → Prop} {rest : List Oper}
/-- append(nil, s...): a copy in new memory. -/
theorem appNil (hgd : o.guard = none) (s x : Operand) (t e : TypeId) (k : IntKind) (bytes : Nat) (ho : o.op = .call { callee := .builtin .append, args := #[s, x], argTypes := #[t, t] })
    (ht : P.underlying t = some (.slice e)) (hinfo : (P.info? e).map (fun i => (i.zero, i.size, i.bytes)) = some (some (.int k 0), 1, bytes)) (hs : a.eval s = .slice none 0 0)
    (A : Option Addr) (n c : Nat) (xs : List Int) (hx : a.eval x = .slice A n c) (hn : 0 < n) (hr : RdA k w A n xs) (h63 : n ≤ maxLen) (hb : n * bytes ≤ 140737488355328)
    (h : ∀ (g cap : Nat) (cur : Array Value) (w2 : World), w.heap.size ≤ g → w2.heap[g]? = some (.cells cur e (0, 0)) → n ≤ cur.size → cur.toList.take n = xs.map (Value.int k) → Below w.heap.size w w2 → wpList P ops Q rest (a.put o.dst (.slice (some ⟨g, 0, none⟩) n cap)) w2) :
    wpList P ops Q (o :: rest) a w := by
  obtain ⟨i0, hi, hzz⟩ := Option.map_eq_some_iff.1 hinfo
  simp only [Prod.mk.injEq] at hzz
  obtain ⟨hz0, hz1, hz2⟩ := hzz
  obtain ⟨ad, rfl, hsrc⟩ := hr.src (by simp [hr.1]; exact hn)
  refine wpList_append_own w hgd s x t ho w.heap.size e i0 (.int k 0) 1 bytes ht hi hz0 hz1 hz2 rfl (by omega) (.slice none 0 0) 0 [] hs ⟨by simp, .inl ⟨rfl, rfl⟩⟩ ad n c (xs.map (Value.int k)) hx (by simp [hr.1]) hsrc (ones_ma _ _) (by omega) (by rw [Nat.zero_add]; exact hb) (Nat.le_refl _) ?_
  intro v' w2 hown hg _
  rw [Nat.zero_add] at hown
  rcases hown.2 with ⟨_, h0⟩ | ⟨g, cap, cur, rfl, hB, hh, hnc, _, hsz, htk⟩
  · omega
  · exact h g cap cur w2 hB hh (by omega) (by simpa using htk) ((Below.refl _ _).grown hg (Nat.le_refl _) (by intro k hk; cases hk))
end
theorem keepAd {k : Nat} {w : World} {o : Obj} (h : Hid (w.heap[k]? = some o)) (n : Nat) : Hid ((w.drewN n).heap[k]? = some o) := h
theorem keepA1 {k : Nat} {w : World} {o : Obj} (h : Hid (w.heap[k]? = some o)) : Hid (w.drew.heap[k]? = some o) := h
theorem newA (w : World) (o : Obj) : Hid ((w.alloc o).heap[w.heap.size]? = some o) := heap_alloc_new w o

end Go.Proofs.YtaclidjhgpkmpaaDoor.My
