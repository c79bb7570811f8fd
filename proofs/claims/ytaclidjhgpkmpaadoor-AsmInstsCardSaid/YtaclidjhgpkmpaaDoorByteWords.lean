/- Words of this session: strings made of bytes: one byte looked up, a slice of bytes turned into a string, two strings joined; the world left abstract. -/
import Derived.Test.YtaclidjhgpkmpaaDoorStrWords
import Derived.Laws.IdiomStrings
import Derived.Laws.Concat
set_option linter.unusedVariables false
namespace Go.Proofs.YtaclidjhgpkmpaaDoor.My
open Go.RowKit
section
variable {P : Program} {ops : Array Oper} {o : Oper} {a : Act} {w : World} {Q : Exit → Act → World → Prop} {rest : List Oper}
theorem strIndex (hw : Region.wanted o (yielded ops a.tmps) = true) (t : TypeId) (x y : Operand) (ho : o.op = .index t x y) (ht : P.underlying t = some .string) (s : ByteArray) (hx : a.eval x = .string s) (k : IntKind) (i : Int) (hy : a.eval y = .int k i) (j c : Nat) (hi : i = (j : Int)) (hj : j < s.size) (hc : bAt s j = c)
    (hk : wpList P ops Q rest (a.put o.dst (.int .u8 c)) w) : wpList P ops Q (o :: rest) a w :=
  wpList_step fun K hK => by
    subst hi hc
    rw [if_pos hw]
    unfold Oper.wp execOp
    have hr := run_index_string (P := P) (w := w) t s k (j : Int) ht
    rw [dif_pos (by omega)] at hr
    simp only [Int.toNat_natCast, bAt_eq hj] at hr
    simp only [ho, hx, hy, Sem.run_bind, Sem.run_pure, hr, Result.andThen_ok]
    exact hK _ _ hk
theorem strBack (hw : Region.wanted o (yielded ops a.tmps) = true) (src dst e : TypeId) (x : Operand) (ho : o.op = .convert src dst x) (hs : P.underlying src = some (.slice e)) (he : P.underlying e = some (.int .u8)) (hd : P.underlying dst = some .string)
    (g off n cap : Nat) (hx : a.eval x = .slice (some ⟨g, off, none⟩) n cap) (l : List UInt8) (hl : l.length = n) {t : TypeId} {cur : Array Value} {fr : Nat × Nat} (hg : w.heap[g]? = some (.cells cur t fr)) (hc : ∀ j (hj : j < l.length), cur[off + j]? = some (.int .u8 (l[j].toNat : Int)))
    (hk : wpList P ops Q rest (a.put o.dst (.string ⟨l.toArray⟩)) w) : wpList P ops Q (o :: rest) a w :=
  wpList_step fun K hK => by
    subst hl
    rw [if_pos hw]
    unfold Oper.wp execOp
    have hr := run_convert_bytes_back (P := P) w src dst e ⟨g, off, none⟩ cap l hs he hd (fun j hj => by
      have ha : (⟨g, off, none⟩ : Addr).add j = ⟨g, off + j, none⟩ := by unfold Addr.add; split <;> simp_all
      rw [ha, cell_of_row w g (off + j) _ _ _ hg]
      exact hc j hj)
    simp only [ho, hx, Sem.run_bind, Sem.run_pure, hr, Result.andThen_ok]
    exact hK _ _ hk
theorem strAdd (hw : Region.wanted o (yielded ops a.tmps) = true) (t : TypeId) (x y : Operand) (u : TypeId) (ho : o.op = .binOp .add t x y u) (s r q : ByteArray) (hx : a.eval x = .string s) (hy : a.eval y = .string r) (h : s.size + r.size ≤ 9223372036854775807) (hq : s ++ r = q)
    (hk : wpList P ops Q rest (a.put o.dst (.string q)) w) : wpList P ops Q (o :: rest) a w :=
  wpList_step fun K hK => by
    subst hq
    rw [if_pos hw]
    unfold Oper.wp execOp
    simp only [ho, hx, hy, eqGuard, ite_self, Sem.run_bind, Sem.run_pure, Result.andThen_ok, binOp_string_add, run_string_add_sum w s r h]
    exact hK _ _ hk
theorem arrSlice (hw : Region.wanted o (yielded ops a.tmps) = true) (t : TypeId) (x lo : Operand) (ho : o.op = .slice t x (some lo) none none) (n : Nat) (e : TypeId) (ht : P.underlying t = some (.array n e)) (hs : (P.info? e).map (·.size) = some 1) (g : Nat) (hx : a.eval x = .pointer (some ⟨g, 0, none⟩)) (k : IntKind) (i : Int) (hy : a.eval lo = .int k i) (l : Nat) (hi : i = (l : Int)) (hl : l < n)
    (hk : wpList P ops Q rest (a.put o.dst (.slice (some ⟨g, l, none⟩) (n - l) (n - l))) w) : wpList P ops Q (o :: rest) a w :=
  wpList_step fun K hK => by
    subst hi
    rw [if_pos hw]
    unfold Oper.wp execOp
    have e1 : P.arrayLen t = n := by simp [Program.arrayLen, ht]
    have e2 : P.elem t = e := by simp [Program.elem, ht]
    have hr := run_sliceAt_array_l (P := P) w t ⟨g, 0, none⟩ (by rw [e1, e2]; exact ht) k (l : Int) (by omega) (by rw [e1]; omega)
    have hz : (sizeOf (P.elem t)).run P w = .ok 1 w := by
      rw [e2]
      cases hq : P.info? e with
      | none => simp [hq] at hs
      | some q =>
        have : q.size = 1 := by simpa [hq] using hs
        simp [sizeOf, typeInfo, hq, this]
    have hv : slicedAt ⟨g, 0, none⟩ ((l : Int)).toNat n n 1 = .slice (some ⟨g, l, none⟩) (n - l) (n - l) := by
      simp only [slicedAt, Int.toNat_natCast, if_neg (show ¬ n = l by omega)]
      congr 2
      simp [Addr.add, eq_comm]
    rw [e1, hz, Result.andThen_ok, hv] at hr
    simp only [ho, hx, hy, Option.map_some, Option.map_none, Sem.run_bind, Sem.run_pure, hr, Result.andThen_ok]
    exact hK _ _ hk
theorem arrAll (hw : Region.wanted o (yielded ops a.tmps) = true) (t : TypeId) (x : Operand) (ho : o.op = .slice t x none none none) (n : Nat) (e : TypeId) (ht : P.underlying t = some (.array n e)) (hs : (P.info? e).map (·.size) = some 1) (g : Nat) (hx : a.eval x = .pointer (some ⟨g, 0, none⟩)) (hn : 0 < n)
    (hk : wpList P ops Q rest (a.put o.dst (.slice (some ⟨g, 0, none⟩) n n)) w) : wpList P ops Q (o :: rest) a w :=
  wpList_step fun K hK => by
    rw [if_pos hw]
    unfold Oper.wp execOp
    have e1 : P.arrayLen t = n := by simp [Program.arrayLen, ht]
    have e2 : P.elem t = e := by simp [Program.elem, ht]
    have hr := run_sliceAt_array_all (P := P) w t ⟨g, 0, none⟩ (by rw [e1, e2]; exact ht)
    have hz : (sizeOf (P.elem t)).run P w = .ok 1 w := by
      rw [e2]
      cases hq : P.info? e with
      | none => simp [hq] at hs
      | some q =>
        have : q.size = 1 := by simpa [hq] using hs
        simp [sizeOf, typeInfo, hq, this]
    have hv : slicedAt ⟨g, 0, none⟩ 0 n n 1 = .slice (some ⟨g, 0, none⟩) n n := by
      simp only [slicedAt, if_neg (show ¬ n = 0 by omega), Nat.sub_zero]
      congr 2
    rw [e1, hz, Result.andThen_ok, hv] at hr
    simp only [ho, hx, Option.map_none, Sem.run_bind, Sem.run_pure, hr, Result.andThen_ok]
    exact hK _ _ hk
end
/-- The string of these bytes. -/
def bs (l : List UInt8) : ByteArray := ⟨l.toArray⟩
theorem bs_size (l : List UInt8) : (bs l).size = l.length := by show l.toArray.size = _; simp
theorem bs_add (l m : List UInt8) : bs l ++ bs m = bs (l ++ m) := ByteArray.mk_append_mk l m
theorem bs_at {l : List UInt8} {i : Nat} (h : i < l.length) : bAt (bs l) i = (l[i]).toNat := by
  have h2 : i < (bs l).size := by rw [bs_size]; exact h
  rw [← bAt_eq h2]
  rfl
theorem set_drop {xs : List Int} {i : Nat} (h : i < xs.length) (v : Int) : (xs.set i v).drop i = v :: xs.drop (i + 1) := by
  rw [List.drop_eq_getElem_cons (by simpa using h)]
  simp [List.drop_set]
end Go.Proofs.YtaclidjhgpkmpaaDoor.My
