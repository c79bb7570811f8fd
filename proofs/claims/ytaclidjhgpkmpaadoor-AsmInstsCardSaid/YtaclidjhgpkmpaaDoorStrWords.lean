/- Words of this session: ranges over a string with the world left abstract; a string's bytes. -/
import Derived.Test.YtaclidjhgpkmpaaDoorSlWords
import Derived.Laws.RangeAny
import Derived.LoopTactic
import Derived.Outline
import Derived.BigQuiet
import Derived.Deep.QuietTactic
import Derived.RegionTactic
import Derived.Laws.BitsLemmas
set_option linter.unusedVariables false
namespace Go.Proofs.YtaclidjhgpkmpaaDoor.My
open Go.RowKit
/-- The iterator stands at this place, and nothing else has turned. -/
def World.to (w : World) (g : Nat) (s : ByteArray) (p : Nat) : World := { w with heap := w.heap.setIfInBounds g (.stringIter s p) }
theorem to_heap {w : World} {g : Nat} {s s' : ByteArray} {p p' : Nat} (h : w.heap[g]? = some (.stringIter s p)) : (World.to w g s' p').heap[g]? = some (.stringIter s' p') := by
  have hlt : g < w.heap.size := (Array.getElem?_eq_some_iff.1 h).1
  show (w.heap.setIfInBounds g _)[g]? = _
  rw [Array.getElem?_setIfInBounds_self_of_lt hlt]
theorem to_only (w : World) (g : Nat) (s : ByteArray) (p : Nat) : Only g w (World.to w g s p) :=
  ⟨rfl, rfl, rfl, by simp [World.to], fun k hk => by
    show (w.heap.setIfInBounds g _)[k]? = _
    rw [Array.getElem?_setIfInBounds_ne (Ne.symm hk)]⟩
section
variable {P : Program}
theorem run_next_at {w : World} {g : Nat} {s : ByteArray} {pos : Nat} (ty : TypeId) (hg : w.heap[g]? = some (.stringIter s pos)) (h : pos < s.size) :
    (Instr.next (.pointer (some ⟨g, 0, none⟩)) true ty).run P w = .ok (.tuple #[.bool true, .int .i64 pos, .int .i32 (Utf8.decode s pos).1]) (World.to w g s (pos + (Utf8.decode s pos).2)) := by
  simp only [Instr.next, getObj, setObj, Sem.run_bind, Sem.run, hg, Result.andThen, h, if_true]
  simp [goInt, World.to]
theorem run_next_done {w : World} {g : Nat} {s : ByteArray} {pos : Nat} (ty : TypeId) (hg : w.heap[g]? = some (.stringIter s pos)) (h : ¬ pos < s.size) :
    (Instr.next (.pointer (some ⟨g, 0, none⟩)) true ty).run P w = .ok (.tuple #[.bool false]) w := by
  simp [Instr.next, getObj, Sem.run, hg, h]
end
theorem pos_of {w : World} {g : Nat} {s : ByteArray} {p : Nat} (h : w.heap[g]? = some (.stringIter s p)) : w.iterPos g = p := by simp [World.iterPos, h]
/-- Byte i. -/
def bAt (s : ByteArray) (i : Nat) : Nat := if h : i < s.size then (s[i]'h).toNat else 0
theorem bAt_eq {s : ByteArray} {i : Nat} (h : i < s.size) : (s[i]'h).toNat = bAt s i := by simp [bAt, h]
theorem bAt_lt (s : ByteArray) (i : Nat) : bAt s i < 256 := by
  unfold bAt
  split
  · exact (s[i]).toNat_lt
  · omega
theorem bAt_ext (s : ByteArray) {i j k : Nat} (hj : j ≤ s.size) (hk : i + k < j) : bAt (s.extract i j) k = bAt s (i + k) := by
  unfold bAt
  rw [dif_pos (show k < (s.extract i j).size by rw [ByteArray.size_extract]; omega), dif_pos (by omega), ByteArray.getElem_extract]
theorem toList_len (s : ByteArray) : s.toList.length = s.size := (congrArg List.length (ByteArray.toList_eq s)).trans Array.length_toList
theorem toList_at {s : ByteArray} {i : Nat} (h : i < s.toList.length) : (s.toList[i]).toNat = bAt s i := by
  have h2 : i < s.size := by rw [← toList_len]; exact h
  rw [← bAt_eq h2]
  congr 1
  have : s.toList = s.data.toList := ByteArray.toList_eq s
  simp only [this, Array.getElem_toList]
  rfl
/-- Two texts are one when their lengths and bytes are. -/
theorem bytes_iff (s : ByteArray) (l : List UInt8) : (s.toList == l) = true ↔ s.size = l.length ∧ ∀ i (h : i < l.length), bAt s i = (l[i]).toNat := by
  rw [beq_iff_eq]
  constructor
  · intro h
    subst h
    exact ⟨(toList_len s).symm, fun i hi => (toList_at hi).symm⟩
  · rintro ⟨h1, h2⟩
    apply List.ext_getElem (by rw [toList_len]; exact h1)
    intro i h3 h4
    apply UInt8.toNat_inj.1
    rw [toList_at h3, h2 i h4]
theorem is_two {s : ByteArray} {a b : UInt8} (h : 2 ≤ s.size) : ((s.extract 0 2).toList == [a, b]) = (bAt s 0 == a.toNat && bAt s 1 == b.toNat) := by
  rw [Bool.eq_iff_iff, bytes_iff, Bool.and_eq_true, beq_iff_eq, beq_iff_eq]
  have e0 := bAt_ext s (i := 0) (j := 2) (k := 0) h (by omega)
  have e1 := bAt_ext s (i := 0) (j := 2) (k := 1) h (by omega)
  constructor
  · rintro ⟨_, h2⟩
    have h3 := h2 0 (by simp)
    have h4 := h2 1 (by simp)
    rw [e0] at h3
    rw [e1] at h4
    exact ⟨h3, h4⟩
  · rintro ⟨h2, h3⟩
    refine ⟨by rw [ByteArray.size_extract]; simp; omega, fun i hi => ?_⟩
    match i, hi with
    | 0, _ => rw [e0]; exact h2
    | 1, _ => rw [e1]; exact h3
theorem is_one {s : ByteArray} {a : UInt8} : (s.toList == [a]) = (s.size == 1 && bAt s 0 == a.toNat) := by
  rw [Bool.eq_iff_iff, bytes_iff, Bool.and_eq_true, beq_iff_eq, beq_iff_eq]
  constructor
  · rintro ⟨h1, h2⟩
    exact ⟨h1, h2 0 (by simp)⟩
  · rintro ⟨h2, h3⟩
    refine ⟨h2, fun i hi => ?_⟩
    match i, hi with
    | 0, _ => exact h3
theorem is_none {s : ByteArray} : (s.toList == []) = (s.size == 0) := by
  rw [Bool.eq_iff_iff, bytes_iff, beq_iff_eq]
  exact ⟨fun h => h.1, fun h => ⟨h, fun i hi => by simp at hi⟩⟩
section
variable {P : Program} {ops : Array Oper} {o : Oper} {a : Act} {w : World} {Q : Exit → Act → World → Prop} {rest : List Oper}
theorem iterLow (hw : Region.wanted o (yielded ops a.tmps) = true) (x : Operand) (ho : o.op = .next x true) (g : Nat) (hx : a.eval x = .pointer (some ⟨g, 0, none⟩)) {s : ByteArray} {pos c : Nat} (hg : w.heap[g]? = some (.stringIter s pos)) (h : pos < s.size) (hc : bAt s pos = c) (h1 : c < 128)
    (hk : ∀ w2 : World, w2.heap[g]? = some (.stringIter s (pos + 1)) → Only g w w2 → wpList P ops Q rest (a.put o.dst (.tuple #[.bool true, .int .i64 pos, .int .i32 c])) w2) : wpList P ops Q (o :: rest) a w :=
  wpList_step fun K hK => by
    subst hc
    rw [if_pos hw]
    unfold Oper.wp execOp
    have hd := decode_ascii s pos h (by rw [bAt_eq h]; exact h1)
    have hr := run_next_at (P := P) o.type hg h
    rw [hd, bAt_eq h] at hr
    simp only [ho, hx, Sem.run_bind, Sem.run_pure, hr, Result.andThen_ok]
    exact hK _ _ (hk _ (to_heap hg) (to_only _ _ _ _))
theorem iterHigh (hw : Region.wanted o (yielded ops a.tmps) = true) (x : Operand) (ho : o.op = .next x true) (g : Nat) (hx : a.eval x = .pointer (some ⟨g, 0, none⟩)) {s : ByteArray} {pos : Nat} (hg : w.heap[g]? = some (.stringIter s pos)) (h : pos < s.size) (h1 : 128 ≤ bAt s pos)
    (hk : ∀ (r d : Nat) (w2 : World), 128 ≤ r → r ≤ 2147483647 → Utf8.decode s pos = (r, d) → 1 ≤ d → w2.heap[g]? = some (.stringIter s (pos + d)) → Only g w w2 → wpList P ops Q rest (a.put o.dst (.tuple #[.bool true, .int .i64 pos, .int .i32 r])) w2) : wpList P ops Q (o :: rest) a w :=
  wpList_step fun K hK => by
    rw [if_pos hw]
    unfold Oper.wp execOp
    have hd := decode_high s pos h (by rw [bAt_eq h]; exact h1)
    have hr := run_next_at (P := P) o.type hg h
    have hl := decode_le s pos
    obtain ⟨⟨r, d⟩, hp⟩ : ∃ p, Utf8.decode s pos = p := ⟨_, rfl⟩
    rw [hp] at hr hd hl
    simp only [ho, hx, Sem.run_bind, Sem.run_pure, hr, Result.andThen_ok]
    exact hK _ _ (hk r d _ hd.1 hl hp hd.2 (to_heap hg) (to_only _ _ _ _))
theorem iterEnd (hw : Region.wanted o (yielded ops a.tmps) = true) (x : Operand) (ho : o.op = .next x true) (g : Nat) (hx : a.eval x = .pointer (some ⟨g, 0, none⟩)) {s : ByteArray} {pos : Nat} (hg : w.heap[g]? = some (.stringIter s pos)) (h : ¬ pos < s.size)
    (hk : wpList P ops Q rest (a.put o.dst (.tuple #[.bool false])) w) : wpList P ops Q (o :: rest) a w :=
  wpList_step fun K hK => by
    rw [if_pos hw]
    unfold Oper.wp execOp
    simp only [ho, hx, Sem.run_bind, Sem.run_pure, run_next_done _ hg h, Result.andThen_ok]
    exact hK _ _ hk
end
end Go.Proofs.YtaclidjhgpkmpaaDoor.My
