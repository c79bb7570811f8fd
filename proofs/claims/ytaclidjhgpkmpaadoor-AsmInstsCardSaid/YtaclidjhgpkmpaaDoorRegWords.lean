/- Words of this session: a region that draws its order, walked one operation at a time: what only reads is taken first, the calls come in their one order. -/
import Derived.Test.YtaclidjhgpkmpaaDoorMaWords
import Derived.Deep.RegionHeld3
import Derived.OrdersHeld
import Derived.Lib.Hide
namespace Go.Proofs.YtaclidjhgpkmpaaDoor.My
open Go.RowKit
section
variable {P : Program} {ops : Array Oper} {Q : Exit → Act → World → Prop} {md : Region.Mode} {S : World → Prop}

theorem rgStart {id n : Nat} {a : Act} {w : World} (l : Array Bool) (hm : P.follows .mixedOrders = true) (hn : ops.size = n) (hl : Array.replicate n false = l) (hS : S w.drew)
    (h : Hid (S w.drew) → wpAnyH P .any ops Q S n l a w.drew) : (Code.region id ops true).wp P Q a w := by
  subst hn; subst hl
  exact wp_region_held_drew hm hS h

/-- Number i may be taken first, and l' is what is listed then. -/
def takeOk (md : Region.Mode) (ops : Array Oper) (l l' : Array Bool) (i : Nat) : Bool := Region.noSelect ops && (Region.free md ops l i && ((Region.ready md ops l).contains i && decide (l.setIfInBounds i true = l')))

theorem rgTake {i : Nat} {N : Option Tmp} {oi : Oper} {v : Value} {fuel : Nat} {l : Array Bool} {a : Act} {w : World} (l' : Array Bool) (hi : ops[i]? = some oi) (hN : oi.dst = N) (hc : takeOk md ops l l' i = true)
    (hQ : ∀ c a w, Q (.panic c) (a.put N v) w → Q (.panic c) a w) (hy : YieldsIf P ops S oi v a) (hS : Hid (S w))
    (h : wpAnyH P md ops Q S fuel l' (a.put N v) w) : wpAnyH P md ops Q S (fuel + 1) l a w := by
  unfold takeOk at hc
  rw [Bool.and_eq_true, Bool.and_eq_true, Bool.and_eq_true, decide_eq_true_eq] at hc
  obtain ⟨h1, h2, h3, rfl⟩ := hc
  subst hN
  exact wpAnyH_take hi h1 h2 h3 hQ hy hS h

/-- Number i alone may come up, and l' is what is listed then. -/
def callOk (md : Region.Mode) (ops : Array Oper) (l l' : Array Bool) (i : Nat) : Bool := decide (Region.ready md ops l = [i]) && decide (l.setIfInBounds i true = l')

theorem rgCall {i : Nat} {N : Option Tmp} {oi : Oper} {fuel : Nat} {l : Array Bool} {a : Act} {w : World} (l' : Array Bool) (hi : ops[i]? = some oi) (hN : oi.dst = N) (hc : callOk md ops l l' i = true)
    (h : ∀ K' : Act → World → Prop, Shut (∀ a w, S w → (Hid (S w) → wpAnyH P md ops Q S fuel l' a w) → K' a w) → if Region.wanted oi (yielded ops a.tmps) = true then Oper.wp P oi a w K' Q else K' (a.put N undef) w) :
    wpAnyH P md ops Q S (fuel + 1) l a w := by
  unfold callOk at hc
  rw [Bool.and_eq_true, decide_eq_true_eq, decide_eq_true_eq] at hc
  obtain ⟨h1, rfl⟩ := hc
  subst hN
  exact wpAnyH_ready h1 (by simp) (AllReadyH.cons hi h AllReadyH.nil)

/-- Two may come up, in either order. -/
def twoOk (md : Region.Mode) (ops : Array Oper) (l l1 l2 : Array Bool) (i j : Nat) : Bool := decide (Region.ready md ops l = [i, j]) && (decide (l.setIfInBounds i true = l1) && decide (l.setIfInBounds j true = l2))
theorem rgTwo {i j : Nat} {Ni Nj : Option Tmp} {oi oj : Oper} {fuel : Nat} {l : Array Bool} {a : Act} {w : World} (l1 l2 : Array Bool) (hi : ops[i]? = some oi) (hNi : oi.dst = Ni) (hj : ops[j]? = some oj) (hNj : oj.dst = Nj) (hc : twoOk md ops l l1 l2 i j = true)
    (h1 : ∀ K' : Act → World → Prop, Shut (∀ a w, S w → (Hid (S w) → wpAnyH P md ops Q S fuel l1 a w) → K' a w) → if Region.wanted oi (yielded ops a.tmps) = true then Oper.wp P oi a w K' Q else K' (a.put Ni undef) w)
    (h2 : ∀ K' : Act → World → Prop, Shut (∀ a w, S w → (Hid (S w) → wpAnyH P md ops Q S fuel l2 a w) → K' a w) → if Region.wanted oj (yielded ops a.tmps) = true then Oper.wp P oj a w K' Q else K' (a.put Nj undef) w) :
    wpAnyH P md ops Q S (fuel + 1) l a w := by
  unfold twoOk at hc
  rw [Bool.and_eq_true, Bool.and_eq_true, decide_eq_true_eq, decide_eq_true_eq, decide_eq_true_eq] at hc
  obtain ⟨h0, rfl, rfl⟩ := hc
  subst hNi; subst hNj
  exact wpAnyH_ready h0 (by simp) (AllReadyH.cons hi h1 (AllReadyH.cons hj h2 AllReadyH.nil))
/-- A new variable, in a region that draws its order; which block it is, is left open. -/
theorem rgAlloc {oi : Oper} {a : Act} {w : World} {K : Act → World → Prop} {E : Prop} (o : Obj) (hrun : (execOp a.eval oi).run P w = .ok (.value (.pointer (some ⟨w.heap.size, 0, none⟩))) (w.alloc o)) (hw : Region.wanted oi (yielded ops a.tmps) = true)
    (h : ∀ (g : Nat) (w2 : World), w.heap.size ≤ g → g < w2.heap.size → w2.heap[g]? = some o → Below w.heap.size w w2 → K (a.put oi.dst (.pointer (some ⟨g, 0, none⟩))) w2) : if Region.wanted oi (yielded ops a.tmps) = true then Oper.wp P oi a w K Q else E := by
  rw [if_pos hw]
  unfold Oper.wp
  rw [hrun]
  exact h _ _ (Nat.le_refl _) (by simp) (heap_alloc_new w o) ((Below.refl _ _).alloc (Nat.le_refl _) o)

theorem rgDone {l : Array Bool} {a : Act} {w : World} (hr : decide (Region.ready md ops l = []) = true) (h : Q .normal a w) (fuel : Nat) : wpAnyH P md ops Q S fuel l a w :=
  wpAnyH_done (of_decide_eq_true hr) h fuel

theorem yieldsMa {oi : Oper} {a : Act} (hw : Region.wanted oi (yielded ops a.tmps) = true) (ty : TypeId) (x : Operand) (ho : oi.op = .load ty x)
    (b : Nat) (hx : a.eval x = .pointer (some ⟨b, 0, none⟩)) (k : IntKind) (xs : List Int) (hS : ∀ w, S w → w.rangeAt b 0 (xs.map (Value.int k)))
    {d : TypeDesc} (hu : P.underlying ty = some d) (hd : d.isRow = true) (hi : (P.info? ty).map (·.size) = some xs.length) : YieldsIf P ops S oi (.agg (ma k xs)) a :=
  yieldsIf_load_mid hw ty x ho b 0 hx (xs.map (Value.int k)) d hS hu hd (by rw [List.length_map]; exact hi)
end

theorem keepA {w w' : World} {g : Nat} {o : Obj} (h : Hid (w.heap[g]? = some o)) (hb : Below w.heap.size w w') : Hid (w'.heap[g]? = some o) := by
  have hlt : g < w.heap.size := (Array.getElem?_eq_some_iff.1 h.out).1
  exact (hb.block g hlt).trans h.out
theorem keepB {B : Nat} {w0 w w' : World} (h : Hid (Below B w0 w ∧ B ≤ w.heap.size)) (hb : Below w.heap.size w w') : Hid (Below B w0 w' ∧ B ≤ w'.heap.size) :=
  ⟨h.out.1.trans ⟨hb.os, hb.tape, hb.output, hb.size, fun i hi => hb.block i (Nat.lt_of_lt_of_le hi h.out.2)⟩, Nat.le_trans h.out.2 hb.size⟩
theorem keepR {w w' : World} {b : Nat} {cs : List Value} (h : Hid (w.rangeAt b 0 cs)) (hb : Below w.heap.size w w') : w'.rangeAt b 0 cs := fun j v hv => by
  have h1 := h.out j v hv
  exact (hb.cell (World.block_lt_of_cell? w _ h1)).trans h1
theorem below_dn {B : Nat} {w W : World} (h : Below B w W) (n : Nat) : Below B w (W.drewN n) := ⟨h.os, h.tape, h.output, h.size, h.block⟩
theorem below_setRow {B : Nat} {w W : World} (h : Below B w W) {g : Nat} (hg : B ≤ g) (cs : Array Value) : Below B w (W.setRow g cs) :=
  ⟨h.os, h.tape, h.output, by simpa using h.size, fun i hi => by rw [setRow_other _ _ _ _ (by omega)]; exact h.block i hi⟩
theorem ret_bool {a b : Bool} (h : a = b) : Ending.returned (.bool a) = .returned (.bool b) := by rw [h]

end Go.Proofs.YtaclidjhgpkmpaaDoor.My
