/- Words of this chapter: slices of structs read, and made by appending; a struct is equal to itself. -/
import Derived.Test.YtpgighhnhidpcaaRenOne
import Derived.Maps.AppendAt
set_option linter.unusedVariables false
set_option linter.unusedSimpArgs false
namespace Go.Proofs.Ytpgighhnhidpcaa.My
open Go.RowKit
theorem range_below {w w' : World} {b o : Nat} {cs : List Value} (h : w.rangeAt b o cs) (hb : Below w.heap.size w w') : w'.rangeAt b o cs := fun j v hv => (hb.cell (World.block_lt_of_cell? w _ (h j v hv))).trans (h j v hv)
theorem range_block {w w' : World} {b o : Nat} {cs : List Value} (h : w.rangeAt b o cs) (hb : w'.heap[b]? = w.heap[b]?) : w'.rangeAt b o cs := fun j v hv => by
  have h1 := h j v hv
  unfold World.cell? at h1 ⊢
  simp only [hb]
  exact h1
/-- A slice of rows that is read: n rows of k cells. -/
def RwA (w : World) (A : Option Addr) (k n : Nat) (rows : List (Array Value)) : Prop :=
  rows.length = n ∧ (∀ r ∈ rows, r.size = k) ∧ (0 < n → ∃ b off, A = some ⟨b, off, none⟩ ∧ b < w.heap.size ∧ ∀ j r, rows[j]? = some r → w.rangeAt b (off + j * k) r.toList)
theorem RwA.below {w w' : World} {A : Option Addr} {k n : Nat} {rows : List (Array Value)} (h : RwA w A k n rows) (hb : Below w.heap.size w w') : RwA w' A k n rows :=
  ⟨h.1, h.2.1, fun hn => by
    obtain ⟨b, off, hA, hlt, hc⟩ := h.2.2 hn
    exact ⟨b, off, hA, Nat.lt_of_lt_of_le hlt hb.size, fun j r hr => range_below (hc j r hr) hb⟩⟩
theorem RwA.only2 {w w' : World} {A : Option Addr} {k n g : Nat} {rows : List (Array Value)} (h : RwA w A k n rows) (ho : Only g w w') (hg : ∀ a, A = some a → 0 < n → a.block ≠ g) : RwA w' A k n rows :=
  ⟨h.1, h.2.1, fun hn => by
    obtain ⟨b, off, hA, hlt, hc⟩ := h.2.2 hn
    exact ⟨b, off, hA, by rw [ho.size]; exact hlt, fun j r hr => range_block (hc j r hr) (ho.block b (hg _ hA hn))⟩⟩
theorem RwA.lt {w : World} {A : Option Addr} {k n : Nat} {rows : List (Array Value)} (h : RwA w A k n rows) : ∀ a, A = some a → 0 < n → a.block < w.heap.size := fun a ha hn => by
  obtain ⟨b, off, hA, hlt, hc⟩ := h.2.2 hn
  rw [hA] at ha
  injection ha with ha
  subst ha
  exact hlt
theorem RwA.drew {w : World} {A : Option Addr} {k n : Nat} {rows : List (Array Value)} (h : RwA w A k n rows) (m : Nat) : RwA (w.drewN m) A k n rows := h
theorem flat_get {k : Nat} : ∀ {rows : List (Array Value)}, (∀ r ∈ rows, r.size = k) → ∀ {j : Nat} {r : Array Value}, rows[j]? = some r → ∀ {i : Nat} {v : Value}, r.toList[i]? = some v → (rows.flatMap Array.toList)[j * k + i]? = some v
  | [], _, j, r, hr, _, _, _ => by simp at hr
  | a :: l, h, 0, r, hr, i, v, hv => by
    obtain rfl : a = r := by simpa using hr
    have hi : i < a.toList.length := (List.getElem?_eq_some_iff.1 hv).1
    rw [List.flatMap_cons, Nat.zero_mul, Nat.zero_add, List.getElem?_append_left hi]
    exact hv
  | a :: l, h, j + 1, r, hr, i, v, hv => by
    have ha : a.toList.length = k := by simpa using h a (by simp)
    have hr' : l[j]? = some r := by simpa using hr
    have := flat_get (fun r hr => h r (by simp [hr])) hr' hv
    rw [List.flatMap_cons, List.getElem?_append_right (by rw [ha, Nat.add_mul]; omega), ha]
    rw [show (j + 1) * k + i - k = j * k + i by rw [Nat.add_mul]; omega]
    exact this
theorem flat_len {k : Nat} : ∀ {rows : List (Array Value)}, (∀ r ∈ rows, r.size = k) → (rows.flatMap Array.toList).length = rows.length * k
  | [], _ => by simp
  | a :: l, h => by
    have ha : a.toList.length = k := by simpa using h a (by simp)
    rw [List.flatMap_cons, List.length_append, ha, flat_len (fun r hr => h r (by simp [hr])), List.length_cons, Nat.add_mul]
    omega
theorem addr_add (b off m : Nat) : (⟨b, off, none⟩ : Addr).add m = ⟨b, off + m, none⟩ := by unfold Addr.add; split <;> simp_all
/-- What a call has made by appending is read. -/
theorem RwA.of_own {w : World} {B k n : Nat} {e : TypeId} {v : Value} {rows : List (Array Value)} (hk : 0 < k) (hr : ∀ r ∈ rows, r.size = k) (h : w.ownsRow B e k v n (rows.flatMap Array.toList)) : ∃ A c, v = .slice A n c ∧ RwA w A k n rows ∧ Fresh B A ∧ rows.length = n := by
  have hl : rows.length = n := by
    have h1 := h.1
    rw [flat_len hr] at h1
    exact Nat.eq_of_mul_eq_mul_right hk h1
  rcases h.2 with ⟨rfl, rfl⟩ | ⟨g, cap, cur, rfl, hB, hcur, _⟩
  · exact ⟨none, 0, rfl, ⟨hl, hr, fun h => absurd h (Nat.lt_irrefl 0)⟩, (fun a ha => by cases ha), hl⟩
  · refine ⟨_, cap, rfl, ⟨hl, hr, fun hn => ⟨g, 0, rfl, (Array.getElem?_eq_some_iff.1 hcur).1, fun j r hj i v hv => ?_⟩⟩, (fun a ha => by injection ha with ha; subst ha; exact hB), hl⟩
    have hc := h.cells (g := g) rfl (j * k + i) v (flat_get hr hj hv)
    rw [addr_add] at hc
    rwa [show 0 + j * k + i = 0 + (j * k + i) by omega]
/-- What append leaves alone. -/
theorem keepAw {w w' : World} {g : Nat} {o : Obj} {r : Option Nat} (h : Hid (w.heap[g]? = some o)) (hg : w.grownBy w' r) (hne : some g ≠ r) : Hid (w'.heap[g]? = some o) := (hg.block g (Array.getElem?_eq_some_iff.1 h.out).1 hne).trans h.out
theorem keepBw {B : Nat} {w0 w w' : World} {r : Option Nat} (h : Hid (Below B w0 w ∧ B ≤ w.heap.size)) (hg : w.grownBy w' r) (hr : ∀ k, r = some k → B ≤ k) : Hid (Below B w0 w' ∧ B ≤ w'.heap.size) :=
  ⟨⟨hg.os.trans h.out.1.os, hg.tape.trans h.out.1.tape, hg.output.trans h.out.1.output, Nat.le_trans h.out.1.size hg.size, fun i hi => (hg.block i (Nat.lt_of_lt_of_le hi h.out.2) (fun e => by have := hr i e.symm; omega)).trans (h.out.1.block i hi)⟩, Nat.le_trans h.out.2 hg.size⟩
theorem RdA.grown {k : IntKind} {w w' : World} {A : Option Addr} {n : Nat} {xs : List Int} {r : Option Nat} (h : RdA k w A n xs) (hg : w.grownBy w' r) (hne : ∀ a, A = some a → 0 < n → some a.block ≠ r) : RdA k w' A n xs :=
  ⟨h.1, fun hn => by
    obtain ⟨b, off, hA, hc⟩ := h.2 hn
    exact ⟨b, off, hA, fun j hj => hg.cell (hc j hj) (show some b ≠ r from hne _ hA hn)⟩⟩
theorem RwA.grown {w w' : World} {A : Option Addr} {k n : Nat} {rows : List (Array Value)} {r : Option Nat} (h : RwA w A k n rows) (hg : w.grownBy w' r) (hne : ∀ a, A = some a → 0 < n → some a.block ≠ r) : RwA w' A k n rows :=
  ⟨h.1, h.2.1, fun hn => by
    obtain ⟨b, off, hA, hlt, hc⟩ := h.2.2 hn
    exact ⟨b, off, hA, Nat.lt_of_lt_of_le hlt hg.size, fun j r hr => range_block (hc j r hr) (hg.block b hlt (hne _ hA hn))⟩⟩
theorem ownk_below {w w' : World} {B e k n : Nat} {v : Value} {xs : List Value} (h : w.ownsRow B e k v n xs) (hb : Below w.heap.size w w') : w'.ownsRow B e k v n xs := by
  refine ⟨h.1, ?_⟩
  rcases h.2 with h | ⟨g, cap, cur, h1, h2, h3, h4⟩
  · exact .inl h
  · exact .inr ⟨g, cap, cur, h1, h2, (hb.block g (Array.getElem?_eq_some_iff.1 h3).1).trans h3, h4⟩
theorem ownk_only {w w' : World} {B e k g n : Nat} {v : Value} {xs : List Value} (h : w.ownsRow B e k v n xs) (hg : ∀ j, v.ownBlock = some j → j ≠ g) (ho : Only g w w') : w'.ownsRow B e k v n xs := by
  refine ⟨h.1, ?_⟩
  rcases h.2 with h | ⟨j, cap, cur, rfl, h2, h3, h4⟩
  · exact .inl h
  · exact .inr ⟨j, cap, cur, rfl, h2, (ho.block j (hg j rfl)).trans h3, h4⟩
theorem ownk_weak {w : World} {B B' e k n : Nat} {v : Value} {xs : List Value} (h : w.ownsRow B e k v n xs) (hB : B' ≤ B) : w.ownsRow B' e k v n xs := by
  refine ⟨h.1, ?_⟩
  rcases h.2 with h | ⟨g, cap, cur, h1, h2, h3⟩
  · exact .inl h
  · exact .inr ⟨g, cap, cur, h1, by omega, h3⟩
theorem ownk_drew {w : World} {B e k n : Nat} {v : Value} {xs : List Value} (h : w.ownsRow B e k v n xs) (m : Nat) : (w.drewN m).ownsRow B e k v n xs := h
/-- The address of an element. -/
theorem run_idx {P : Program} (w : World) (t e : TypeId) (k : Nat) (ht : P.underlying t = some (.slice e)) (hs : ∀ w, (sizeOf e).run P w = .ok k w) (b off n c i : Nat) (hi : i < n) : (Instr.indexAt t (.slice (some ⟨b, off, none⟩) n c) (.int .i64 i)).run P w = .ok (.pointer (some ⟨b, off + i * k, none⟩)) w := by
  have h0 : (0 : Int) ≤ (i : Int) ∧ (i : Int) < (n : Int) := ⟨by omega, by omega⟩
  unfold Instr.indexAt
  simp [asIntOf, run_underlying ht, hs, h0, addr_add]
  omega
section
variable {P : Program} {ops : Array Oper} {o : Oper} {a : Act} {w : World} {Q : Exit → Act → World → Prop} {rest : List Oper}
theorem wlIdx (hw : Region.wanted o (yielded ops a.tmps) = true) (t : TypeId) (x y : Operand) (ho : o.op = .indexAddr t x y) (e : TypeId) (k : Nat) (ht : P.underlying t = some (.slice e)) (hs : ∀ w, (sizeOf e).run P w = .ok k w) (b off n c i : Nat) (hx : a.eval x = .slice (some ⟨b, off, none⟩) n c) (hy : a.eval y = .int .i64 i) (hi : i < n)
    (h : wpList P ops Q rest (a.put o.dst (.pointer (some ⟨b, off + i * k, none⟩))) w) : wpList P ops Q (o :: rest) a w :=
  opVal hw _ (by
    unfold execOp
    rw [ho]
    simp only [hx, hy, Sem.run_bind, run_idx w t e k ht hs b off n c i hi, Result.andThen_ok]
    rfl) h
theorem yieldsIdx {S : World → Prop} {oi : Oper} {a : Act} (hw : Region.wanted oi (yielded ops a.tmps) = true) (t : TypeId) (x y : Operand) (ho : oi.op = .indexAddr t x y) (e : TypeId) (k : Nat) (ht : P.underlying t = some (.slice e)) (hs : ∀ w, (sizeOf e).run P w = .ok k w) (b off n c i : Nat) (hx : a.eval x = .slice (some ⟨b, off, none⟩) n c) (hy : a.eval y = .int .i64 i) (hi : i < n) : YieldsIf P ops S oi (.pointer (some ⟨b, off + i * k, none⟩)) a :=
  .inl ⟨hw, fun w _ => by
    unfold execOp
    rw [ho]
    simp only [hx, hy, Sem.run_bind, run_idx w t e k ht hs b off n c i hi, Result.andThen_ok]
    rfl⟩
/-- One element laid in a block of its own. -/
theorem wlLit (hw : Region.wanted o (yielded ops a.tmps) = true) (t : TypeId) (m : Nat) (parts : Array (Nat × Operand)) (ho : o.op = .buildSlice t m parts) (cs : Array Value) (e : TypeId)
    (hrun : ∀ w, (execOp a.eval o).run P w = .ok (.value (.slice (some ⟨w.heap.size, 0, none⟩) m m)) (w.alloc (.cells cs e)))
    (h : ∀ (g : Nat) (w2 : World), w.heap.size ≤ g → g < w2.heap.size → w2.heap[g]? = some (.cells cs e (0, 0)) → Below w.heap.size w w2 → wpList P ops Q rest (a.put o.dst (.slice (some ⟨g, 0, none⟩) m m)) w2) : wpList P ops Q (o :: rest) a w :=
  wpList_step fun K hK => by
    rw [if_pos hw]
    unfold Oper.wp
    rw [hrun]
    exact hK _ _ (h _ _ (Nat.le_refl _) (by simp) (heap_alloc_new _ _) ((Below.refl _ _).alloc (Nat.le_refl _) _))
theorem appRow (hgd : o.guard = none) (s x : Operand) (t e : TypeId) (z : Value) (k bytes : Nat) (ho : o.op = .call { callee := .builtin .append, args := #[s, x], argTypes := #[t, t] })
    (ht : P.underlying t = some (.slice e)) (hinfo : (P.info? e).map (fun i => (i.zero, i.size, i.bytes)) = some (some z, k, bytes)) (hzc : z.cells.size = k) (hk : 0 < k)
    (B : Nat) (v : Value) (n : Nat) (xs : List Value) (hs : a.eval s = v) (hown : w.ownsRow B e k v n xs) (cs : Array Value) (hcs : cs.size = k) (h1 : cs.all (·.oneCell') = true) (g c : Nat) {tt : TypeId} {fr : Nat × Nat}
    (hx : a.eval x = .slice (some ⟨g, 0, none⟩) 1 c) (hg : w.heap[g]? = some (.cells cs tt fr)) (h63 : n + 1 ≤ maxLen) (hb : (n + 1) * bytes ≤ 140737488355328) (hB : B ≤ w.heap.size)
    (h : ∀ (v' : Value) (w2 : World), w2.ownsRow B e k v' (n + 1) (xs ++ cs.toList) → w.grownBy w2 v.ownBlock → (v'.ownBlock = v.ownBlock ∨ v'.ownBlock = some w.heap.size) → wpList P ops Q rest (a.put o.dst v') w2) :
    wpList P ops Q (o :: rest) a w := by
  obtain ⟨i0, hi, hzz⟩ := Option.map_eq_some_iff.1 hinfo
  simp only [Prod.mk.injEq] at hzz
  obtain ⟨hz0, hz1, hz2⟩ := hzz
  refine wpList_append_own_at _ hgd s x t ho B e i0 z k bytes ht hi hz0 hz1 hz2 hzc hk v n xs hs hown ⟨g, 0, none⟩ 1 c cs.toList hx (by simp [hcs]) ?_ ?_ h63 hb hB ?_
  · intro j q hj
    rw [addr_add, cell_of_row w g (0 + j) _ _ _ hg, Nat.zero_add, ← Array.getElem?_toList]
    exact hj
  · intro q hq
    rw [Array.all_eq_true_iff_forall_mem] at h1
    exact h1 q (by simpa using hq)
  · intro v' w2 e1 e2 _ e4
    exact h v' w2 e1 e2 e4
end
section
variable {P : Program} {ops : Array Oper} {Q : Exit → Act → World → Prop} {md : Region.Mode} {S : World → Prop}
/-- Three may come up, in any order. -/
def threeOk (md : Region.Mode) (ops : Array Oper) (l l1 l2 l3 : Array Bool) (i j k : Nat) : Bool := decide (Region.ready md ops l = [i, j, k]) && (decide (l.setIfInBounds i true = l1) && (decide (l.setIfInBounds j true = l2) && decide (l.setIfInBounds k true = l3)))
theorem rgThree {i j k : Nat} {Ni Nj Nk : Option Tmp} {oi oj ok : Oper} {fuel : Nat} {l : Array Bool} {a : Act} {w : World} (l1 l2 l3 : Array Bool) (hi : ops[i]? = some oi) (hNi : oi.dst = Ni) (hj : ops[j]? = some oj) (hNj : oj.dst = Nj) (hk : ops[k]? = some ok) (hNk : ok.dst = Nk) (hc : threeOk md ops l l1 l2 l3 i j k = true)
    (h1 : ∀ K' : Act → World → Prop, Shut (∀ a w, S w → (Hid (S w) → wpAnyH P md ops Q S fuel l1 a w) → K' a w) → if Region.wanted oi (yielded ops a.tmps) = true then Oper.wp P oi a w K' Q else K' (a.put Ni undef) w)
    (h2 : ∀ K' : Act → World → Prop, Shut (∀ a w, S w → (Hid (S w) → wpAnyH P md ops Q S fuel l2 a w) → K' a w) → if Region.wanted oj (yielded ops a.tmps) = true then Oper.wp P oj a w K' Q else K' (a.put Nj undef) w)
    (h3 : ∀ K' : Act → World → Prop, Shut (∀ a w, S w → (Hid (S w) → wpAnyH P md ops Q S fuel l3 a w) → K' a w) → if Region.wanted ok (yielded ops a.tmps) = true then Oper.wp P ok a w K' Q else K' (a.put Nk undef) w) :
    wpAnyH P md ops Q S (fuel + 1) l a w := by
  unfold threeOk at hc
  rw [Bool.and_eq_true, Bool.and_eq_true, Bool.and_eq_true, decide_eq_true_eq, decide_eq_true_eq, decide_eq_true_eq, decide_eq_true_eq] at hc
  obtain ⟨h0, rfl, rfl, rfl⟩ := hc
  subst hNi; subst hNj; subst hNk
  exact wpAnyH_ready h0 (by simp) (AllReadyH.cons hi h1 (AllReadyH.cons hj h2 (AllReadyH.cons hk h3 AllReadyH.nil)))
end
end Go.Proofs.Ytpgighhnhidpcaa.My
