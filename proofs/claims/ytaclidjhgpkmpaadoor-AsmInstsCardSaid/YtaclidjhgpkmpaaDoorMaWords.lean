/- Words of this session: arrays of whole numbers as values ('[n]T'), told by the list of their numbers. -/
import Derived.Test.YtaclidjhgpkmpaaDoorProg
import Derived.WalkKit
import Derived.WalkSpells
import Derived.WalkLawsBesides
import Derived.Below
import Derived.Laws.Rows
import Derived.Laws.StructEq
import Derived.Deep.MidRow
import Derived.KernelRfl
namespace Go.Proofs.YtaclidjhgpkmpaaDoor.My
open Go.RowKit

/-- The cells of an array of numbers. -/
def ma (k : IntKind) (xs : List Int) : Array Value := (xs.map (Value.int k)).toArray

theorem ma_size (k : IntKind) (xs : List Int) : (ma k xs).size = xs.length := by simp [ma]

theorem ma_get {k : IntKind} {xs : List Int} {i : Nat} (h : i < xs.length) : (ma k xs)[i]? = some (.int k (xs.getD i 0)) := by
  simp [ma, List.getElem?_eq_getElem h, List.getD_eq_getElem?_getD]

theorem ma_set (k : IntKind) (xs : List Int) (i : Nat) (v : Int) : (ma k xs).setIfInBounds i (.int k v) = ma k (xs.set i v) := by
  simp only [ma, List.setIfInBounds_toArray, List.map_set]

theorem ma_one (k : IntKind) (xs : List Int) : (ma k xs).all (·.oneCell') = true := by
  rw [Array.all_eq_true_iff_forall_mem]
  intro v hv
  simp [ma] at hv
  obtain ⟨a, _, rfl⟩ := hv
  rfl

theorem ma_toList (k : IntKind) (xs : List Int) : (ma k xs).toList = xs.map (Value.int k) := by simp [ma]

theorem ma_range {w : World} {b : Nat} {k : IntKind} {xs : List Int} {t : TypeId} {fr : Nat × Nat} (h : w.heap[b]? = some (.cells (ma k xs) t fr)) : w.rangeAt b 0 (xs.map (Value.int k)) := by
  intro j v hv
  rw [cell_of_row w b (0 + j) _ _ _ h]
  simpa [ma] using hv

theorem all_range_eqI : ∀ (xs ys : List Int), xs.length = ys.length → ((List.range xs.length).all fun i => xs.getD i 0 == ys.getD i 0) = (xs == ys)
  | [], [], _ => rfl
  | x :: xs, y :: ys, h => by
    have ih := all_range_eqI xs ys (by simpa using h)
    rw [List.length_cons, List.range_succ_eq_map, List.all_cons, List.all_map]
    simp only [List.getD_cons_zero, Function.comp_def, List.getD_cons_succ, ih]
    simp [List.cons_beq_cons]
  | [], _ :: _, h => by simp at h
  | _ :: _, [], h => by simp at h

theorem equalIn_ma {P : Program} (w : World) (d : Nat) (t e : TypeId) (n : Nat) (k : IntKind) (ht : P.underlying t = some (.array n e)) (he : P.underlying e = some (.int k)) (hsz : ∀ w, (sizeOf e).run P w = .ok 1 w)
    (xs ys : List Int) (hx : xs.length = n) (hy : ys.length = n) :
    (Op.equalIn (d + 2) t (.agg (ma k xs)) (.agg (ma k ys))).run P w = .ok (xs == ys) w := by
  rw [← all_range_eqI xs ys (hx.trans hy.symm), hx, List.range_eq_range', Op.equalIn]
  simp only [Sem.run_bind, run_underlying ht, Result.andThen_ok, hsz, Std.Legacy.Range.forIn_eq_forIn_range', Std.Legacy.Range.size, Nat.sub_zero, Nat.add_sub_cancel, Nat.div_one]
  have hl : ∀ i ∈ List.range' 0 n 1, i < n := fun i hi => by simpa using (List.mem_range'_1.1 hi).2
  generalize List.range' 0 n 1 = l at hl ⊢
  induction l with
  | nil => simp
  | cons i l ih =>
    have hi : i < n := hl i (by simp)
    have px : (part e (ma k xs) (i * 1)).run P w = .ok (.int k (xs.getD i 0)) w := by
      simp [part, isAgg, run_underlying he, ma_get (k := k) (show i < xs.length by omega)]
    have py : (part e (ma k ys) (i * 1)).run P w = .ok (.int k (ys.getD i 0)) w := by
      simp [part, isAgg, run_underlying he, ma_get (k := k) (show i < ys.length by omega)]
    have pe : (Op.equalIn (d + 1) e (.int k (xs.getD i 0)) (.int k (ys.getD i 0))).run P w = .ok (xs.getD i 0 == ys.getD i 0) w := by
      rw [run_equalIn_int w d e k k _ _ he]
    simp only [List.forIn_cons, Sem.run_bind, px, py, pe, Result.andThen_ok, List.all_cons]
    cases hb : (xs.getD i 0 == ys.getD i 0)
    · simp
    · simp only [Bool.not_true, Bool.false_eq_true, if_false, Sem.run_pure, Result.andThen_ok, Bool.true_and]
      exact ih fun j hj => hl j (by simp [hj])

theorem eql_ma {P : Program} (t e : TypeId) (n : Nat) (k : IntKind) (ht : P.underlying t = some (.array n e)) (he : P.underlying e = some (.int k)) (hsz : ∀ w, (sizeOf e).run P w = .ok 1 w)
    (xs ys : List Int) (hx : xs.length = n) (hy : ys.length = n) (w : World) :
    (binOp .eql t (.agg (ma k xs)) (.agg (ma k ys))).run P w = .ok (.bool (xs == ys)) w := by
  rw [run_eql_struct, equalIn_ma w 9998 t e n k ht he hsz xs ys hx hy]
  rfl

end Go.Proofs.YtaclidjhgpkmpaaDoor.My
