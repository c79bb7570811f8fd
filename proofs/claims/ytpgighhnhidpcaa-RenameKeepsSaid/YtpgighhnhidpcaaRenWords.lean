/- Words of this chapter: names, Uops and renamed Uops as values; a row inside a row loaded and stored; new variables with the world left abstract. -/
import Derived.Test.YtpgighhnhidpcaaFreelTake
import Derived.Test.YtpgighhnhidpcaaRatWalks
set_option linter.unusedVariables false
set_option linter.unusedSimpArgs false
namespace Go.Proofs.Ytpgighhnhidpcaa.My
open Go.RowKit

/-- A Uop's numbers. -/
structure UopV where
  i0 : Int
  i1 : Int
  i2 : Int
  i3 : Int
  i4 : Int
  pc : Int
  word : Int
  cause : Int
  tval : Int
  taken : Bool
  target : Int
  hist : Int
  top : Int
  val : Int
  unit : Int
  part : Int
  last : Bool
  s0 : Int
  s1 : Int
  s2 : Int
  dst : Int
  cz : Int
  tv : Int
/-- Its cells. -/
def uA (u : UopV) : Array Value := #[.int .i64 u.i0, .int .i64 u.i1, .int .i64 u.i2, .int .i64 u.i3, .int .i64 u.i4, .int .u32 u.pc, .int .u32 u.word, .int .i64 u.cause, .int .u32 u.tval, .bool u.taken, .int .u32 u.target, .int .u32 u.hist, .int .i64 u.top, .int .u32 u.val,
  .int .i64 u.unit, .int .i64 u.part, .bool u.last, .int .i64 u.s0, .int .i64 u.s1, .int .i64 u.s2, .int .i64 u.dst, .int .i64 u.cz, .int .u32 u.tv]
/-- A renamed Uop's numbers. -/
structure RenV where
  u : UopV
  seq : Int
  n0 : Int
  n1 : Int
  n2 : Int
  out : Int
  old : Int
def rA (r : RenV) : Array Value := #[.int .i64 r.u.i0, .int .i64 r.u.i1, .int .i64 r.u.i2, .int .i64 r.u.i3, .int .i64 r.u.i4, .int .u32 r.u.pc, .int .u32 r.u.word, .int .i64 r.u.cause, .int .u32 r.u.tval, .bool r.u.taken, .int .u32 r.u.target, .int .u32 r.u.hist, .int .i64 r.u.top, .int .u32 r.u.val,
  .int .i64 r.u.unit, .int .i64 r.u.part, .bool r.u.last, .int .i64 r.u.s0, .int .i64 r.u.s1, .int .i64 r.u.s2, .int .i64 r.u.dst, .int .i64 r.u.cz, .int .u32 r.u.tv, .int .u64 r.seq, .int .i64 r.n0, .int .i64 r.n1, .int .i64 r.n2, .int .i64 r.out, .int .i64 r.old]
theorem rA_split (r : RenV) : (rA r).toList = (uA r.u).toList ++ [.int .u64 r.seq, .int .i64 r.n0, .int .i64 r.n1, .int .i64 r.n2, .int .i64 r.out, .int .i64 r.old] := rfl
theorem uA_17 (u : UopV) : (uA u)[17]? = some (.int .i64 u.s0) := rfl
theorem uA_18 (u : UopV) : (uA u)[18]? = some (.int .i64 u.s1) := rfl
theorem uA_19 (u : UopV) : (uA u)[19]? = some (.int .i64 u.s2) := rfl
theorem uA_20 (u : UopV) : (uA u)[20]? = some (.int .i64 u.dst) := rfl
theorem rA_20 (r : RenV) : (rA r)[20]? = some (.int .i64 r.u.dst) := rfl
theorem rA_23 (r : RenV) : (rA r)[23]? = some (.int .u64 r.seq) := rfl
theorem rA_24 (r : RenV) : (rA r)[24]? = some (.int .i64 r.n0) := rfl
theorem rA_25 (r : RenV) : (rA r)[25]? = some (.int .i64 r.n1) := rfl
theorem rA_26 (r : RenV) : (rA r)[26]? = some (.int .i64 r.n2) := rfl
theorem rA_27 (r : RenV) : (rA r)[27]? = some (.int .i64 r.out) := rfl
theorem rA_28 (r : RenV) : (rA r)[28]? = some (.int .i64 r.old) := rfl
theorem uop_mid {w : World} {g : Nat} {r : RenV} {t : TypeId} {fr : Nat × Nat} (hg : w.heap[g]? = some (.cells (rA r) t fr)) : w.rangeAt g 0 (uA r.u).toList := fun j v hv => by
  have hj : j < (uA r.u).toList.length := (List.getElem?_eq_some_iff.1 hv).1
  rw [cell_of_row w g (0 + j) _ _ _ hg, ← Array.getElem?_toList, rA_split, Nat.zero_add, List.getElem?_append_left hj]
  exact hv
theorem uA_one (u : UopV) : (uA u).all (·.oneCell') = true := by simp [uA, Value.oneCell']
theorem rA_one (r : RenV) : (rA r).all (·.oneCell') = true := by simp [rA, Value.oneCell']
/-- The cells of names: both maps, the ring, the next number. -/
def nm (m d : List Int) (S : Value) (h N s : Int) : Array Value := (m.map (Value.int .i64) ++ (d.map (Value.int .i64) ++ [S, .int .i64 h, .int .i64 N, .int .u64 s])).toArray
section
variable {m d : List Int} {S : Value} {h N s : Int}
theorem nm_size (hm : m.length = 16) (hd : d.length = 16) : (nm m d S h N s).size = 36 := by simp [nm, hm, hd]
theorem nm_one (hS : S.oneCell' = true) : (nm m d S h N s).all (·.oneCell') = true := by
  rw [Array.all_eq_true_iff_forall_mem]
  intro v hv
  simp [nm] at hv
  rcases hv with ⟨a, _, rfl⟩ | ⟨a, _, rfl⟩ | rfl | rfl | rfl | rfl <;> first | exact hS | rfl
theorem nm_tail (hm : m.length = 16) (hd : d.length = 16) (j : Nat) : (nm m d S h N s)[32 + j]? = [S, .int .i64 h, .int .i64 N, .int .u64 s][j]? := by
  simp only [nm, List.getElem?_toArray]
  rw [List.getElem?_append_right (by simp [hm]; omega), List.getElem?_append_right (by simp [hm, hd]; omega)]
  congr 1
  simp [hm, hd]
  omega
theorem nm_32 (hm : m.length = 16) (hd : d.length = 16) : (nm m d S h N s)[32]? = some S := nm_tail hm hd 0
theorem nm_33 (hm : m.length = 16) (hd : d.length = 16) : (nm m d S h N s)[33]? = some (.int .i64 h) := nm_tail hm hd 1
theorem nm_34 (hm : m.length = 16) (hd : d.length = 16) : (nm m d S h N s)[34]? = some (.int .i64 N) := nm_tail hm hd 2
theorem nm_35 (hm : m.length = 16) (hd : d.length = 16) : (nm m d S h N s)[35]? = some (.int .u64 s) := nm_tail hm hd 3
theorem nm_set35 (hm : m.length = 16) (hd : d.length = 16) (s' : Int) : (nm m d S h N s).setIfInBounds 35 (.int .u64 s') = nm m d S h N s' := by
  simp only [nm, List.setIfInBounds_toArray]
  congr 1
  rw [List.set_append_right _ _ (by simp [hm]), List.set_append_right _ _ (by simp [hm, hd])]
  simp [hm, hd]
theorem nm_ring : nm m d S h N s = ((m.map (Value.int .i64) ++ d.map (Value.int .i64)) ++ ([S, .int .i64 h, .int .i64 N] ++ [Value.int .u64 s])).toArray := by simp [nm]
end
/-- Cells in the middle of a row. -/
theorem row_mid {w : World} {g : Nat} {pre mid post : List Value} {t : TypeId} {fr : Nat × Nat} (hg : w.heap[g]? = some (.cells (pre ++ (mid ++ post)).toArray t fr)) {o : Nat} (ho : pre.length = o) : w.rangeAt g o mid := fun j v hv => by
  have hj : j < mid.length := (List.getElem?_eq_some_iff.1 hv).1
  rw [cell_of_row w g (o + j) _ _ _ hg, List.getElem?_toArray, List.getElem?_append_right (by omega), List.getElem?_append_left (by omega), ← hv]
  congr 1
  omega
theorem nm_map {w : World} {g : Nat} {m d : List Int} {S : Value} {h N s : Int} {t : TypeId} {fr : Nat × Nat} (hg : w.heap[g]? = some (.cells (nm m d S h N s) t fr)) : w.rangeAt g 0 (ma .i64 m).toList := by
  rw [ma_toList]
  exact row_mid (pre := []) hg rfl
theorem nm_done {w : World} {g : Nat} {m d : List Int} {S : Value} {h N s : Int} {t : TypeId} {fr : Nat × Nat} (hm : m.length = 16) (hg : w.heap[g]? = some (.cells (nm m d S h N s) t fr)) : w.rangeAt g 16 (ma .i64 d).toList := by
  rw [ma_toList]
  exact row_mid (pre := m.map (Value.int .i64)) hg (by simp [hm])
theorem nm_free {w : World} {g : Nat} {m d : List Int} {S : Value} {h N s : Int} {t : TypeId} {fr : Nat × Nat} (hm : m.length = 16) (hd : d.length = 16) (hg : w.heap[g]? = some (.cells (nm m d S h N s) t fr)) : w.rangeAt g 32 (#[S, .int .i64 h, .int .i64 N] : Array Value).toList := by
  rw [nm_ring] at hg
  exact row_mid hg (by simp [hm, hd])
/-- A part of a row stored. -/
theorem setCells_mid {t : TypeId} (g : Nat) : ∀ (vs pre old post : List Value) (w : World), w.heap[g]? = some (.cells (pre ++ (old ++ post)).toArray t (0, 0)) → old.length = vs.length →
    (w.setCells g pre.length vs).heap[g]? = some (.cells (pre ++ (vs ++ post)).toArray t (0, 0)) ∧ Only g w (w.setCells g pre.length vs)
  | [], pre, old, post, w, hg, hl => by
    have : old = [] := List.eq_nil_of_length_eq_zero hl
    subst this
    exact ⟨hg, ⟨rfl, rfl, rfl, rfl, fun _ _ => rfl⟩⟩
  | v :: vs, pre, old, post, w, hg, hl => by
    obtain ⟨o, old, rfl⟩ : ∃ o r, old = o :: r := by cases old with | nil => simp at hl | cons o r => exact ⟨o, r, rfl⟩
    have h1 : (w.setCell ⟨g, pre.length, none⟩ v).heap[g]? = some (.cells ((pre ++ [v]) ++ (old ++ post)).toArray t (0, 0)) := by
      rw [setCell_eq_setRow w g pre.length _ t _ v hg, setRow_heap _ _ _ _ _ _ hg, List.setIfInBounds_toArray, List.set_append_right _ _ (Nat.le_refl _)]
      simp
    have ho : Only g w (w.setCell ⟨g, pre.length, none⟩ v) := by
      rw [setCell_eq_setRow w g pre.length _ t _ v hg]
      exact only_setRow _ _ _
    obtain ⟨h2, h3⟩ := setCells_mid g vs (pre ++ [v]) old post _ h1 (by simpa using hl)
    rw [World.setCells]
    simp only [List.length_append, List.length_cons, List.length_nil, Nat.zero_add] at h2 h3
    refine ⟨by simpa using h2, ⟨h3.os.trans ho.os, h3.tape.trans ho.tape, h3.output.trans ho.output, h3.size.trans ho.size, fun k hk => (h3.block k hk).trans (ho.block k hk)⟩⟩
theorem there_mid {w : World} {g : Nat} {pre mid post : List Value} {t : TypeId} (hg : w.heap[g]? = some (.cells (pre ++ (mid ++ post)).toArray t (0, 0))) {o : Nat} (ho : pre.length = o) : w.there g o mid.length := fun j hj => by
  refine ⟨?_, frozen_of_row w g (o + j) _ t hg⟩
  rw [row_mid hg ho j mid[j] (List.getElem?_eq_getElem hj)]
  rfl
theorem three_one {S : Value} {h N : Int} (hS : S.oneCell' = true) : (#[S, .int .i64 h, .int .i64 N] : Array Value).all (·.oneCell') = true := by
  rw [Array.all_eq_true_iff_forall_mem]
  intro v hv
  simp at hv
  rcases hv with rfl | rfl | rfl <;> first | exact hS | rfl
section
variable {P : Program} {ops : Array Oper} {Q : Exit → Act → World → Prop} {rest : List Oper} {o : Oper} {a : Act} {w : World}
theorem partLoad (hw : Region.wanted o (yielded ops a.tmps) = true) (ty : TypeId) (x : Operand) (ho : o.op = .load ty x) (g off : Nat) (hx : a.eval x = .pointer (some ⟨g, off, none⟩))
    {cs : Array Value} {d : TypeDesc} (hr : w.rangeAt g off cs.toList) (hu : P.underlying ty = some d) (hd : d.isRow = true) (hi : (P.info? ty).map (·.size) = some cs.size)
    (h : wpList P ops Q rest (a.put o.dst (.agg cs)) w) : wpList P ops Q (o :: rest) a w :=
  wpList_step fun K hK => by
    rw [if_pos hw]
    exact wp_load_mid ty x ho g off hx cs.toList d hr hu hd (by simpa using hi) (hK _ _ (by simpa using h))
theorem partStore (hw : Region.wanted o (yielded ops a.tmps) = true) (ty : TypeId) (x y : Operand) (ho : o.op = .store ty x y) (g off : Nat) (hx : a.eval x = .pointer (some ⟨g, off, none⟩))
    (cs : Array Value) (hy : a.eval y = .agg cs) {pre old post : List Value} {t : TypeId} (hg : w.heap[g]? = some (.cells (pre ++ (old ++ post)).toArray t (0, 0))) (hp : pre.length = off) (hl : old.length = cs.size) (hi : (P.info? ty).map (·.size) = some cs.size) (h1 : cs.all (·.oneCell') = true)
    (h : ∀ w2 : World, w2.heap[g]? = some (.cells (pre ++ (cs.toList ++ post)).toArray t (0, 0)) → Only g w w2 → wpList P ops Q rest (a.put o.dst undef) w2) : wpList P ops Q (o :: rest) a w :=
  wpList_step fun K hK => by
    rw [if_pos hw]
    obtain ⟨h2, h3⟩ := setCells_mid g cs.toList pre old post w hg (by simpa using hl)
    subst hp
    exact wp_store_mid ty x y ho g pre.length cs hx hy (by have := there_mid hg rfl; rwa [hl] at this) hi h1 (hK _ _ (h _ h2 h3))
section
variable {m d : List Int} {S : Value} {hh N s : Int} {t : TypeId} {g : Nat}
theorem storeMap (hw : Region.wanted o (yielded ops a.tmps) = true) (ty : TypeId) (x y : Operand) (ho : o.op = .store ty x y) (hx : a.eval x = .pointer (some ⟨g, 0, none⟩)) (m' : List Int) (hy : a.eval y = .agg (ma .i64 m')) (hg : w.heap[g]? = some (.cells (nm m d S hh N s) t (0, 0)))
    (hm : m.length = 16) (hm' : m'.length = 16) (hi : (P.info? ty).map (·.size) = some 16)
    (h : ∀ w2 : World, w2.heap[g]? = some (.cells (nm m' d S hh N s) t (0, 0)) → Only g w w2 → wpList P ops Q rest (a.put o.dst undef) w2) : wpList P ops Q (o :: rest) a w :=
  partStore hw ty x y ho g 0 hx (ma .i64 m') hy (pre := []) (old := m.map (Value.int .i64)) hg rfl (by rw [ma_size, List.length_map, hm, hm']) (by rw [ma_size, hm']; exact hi) (ma_one _ _) (fun w2 h2 h3 => h w2 (by rw [ma_toList] at h2; exact h2) h3)
theorem storeDone (hw : Region.wanted o (yielded ops a.tmps) = true) (ty : TypeId) (x y : Operand) (ho : o.op = .store ty x y) (hx : a.eval x = .pointer (some ⟨g, 16, none⟩)) (d' : List Int) (hy : a.eval y = .agg (ma .i64 d')) (hg : w.heap[g]? = some (.cells (nm m d S hh N s) t (0, 0)))
    (hm : m.length = 16) (hd : d.length = 16) (hd' : d'.length = 16) (hi : (P.info? ty).map (·.size) = some 16)
    (h : ∀ w2 : World, w2.heap[g]? = some (.cells (nm m d' S hh N s) t (0, 0)) → Only g w w2 → wpList P ops Q rest (a.put o.dst undef) w2) : wpList P ops Q (o :: rest) a w :=
  partStore hw ty x y ho g 16 hx (ma .i64 d') hy (pre := m.map (Value.int .i64)) (old := d.map (Value.int .i64)) hg (by rw [List.length_map, hm]) (by rw [ma_size, List.length_map, hd, hd']) (by rw [ma_size, hd']; exact hi) (ma_one _ _) (fun w2 h2 h3 => h w2 (by rw [ma_toList] at h2; exact h2) h3)
theorem storeRing (hw : Region.wanted o (yielded ops a.tmps) = true) (ty : TypeId) (x y : Operand) (ho : o.op = .store ty x y) (hx : a.eval x = .pointer (some ⟨g, 32, none⟩)) (S' : Value) (h' N' : Int) (hy : a.eval y = .agg #[S', .int .i64 h', .int .i64 N']) (hg : w.heap[g]? = some (.cells (nm m d S hh N s) t (0, 0)))
    (hm : m.length = 16) (hd : d.length = 16) (hS : S'.oneCell' = true) (hi : (P.info? ty).map (·.size) = some 3)
    (h : ∀ w2 : World, w2.heap[g]? = some (.cells (nm m d S' h' N' s) t (0, 0)) → Only g w w2 → wpList P ops Q rest (a.put o.dst undef) w2) : wpList P ops Q (o :: rest) a w := by
  rw [nm_ring] at hg
  exact partStore hw ty x y ho g 32 hx #[S', .int .i64 h', .int .i64 N'] hy hg (by simp [hm, hd]) rfl hi (three_one hS) (fun w2 h2 h3 => h w2 (by rw [nm_ring]; exact h2) h3)
end
/-- A new variable, with what is laid into it. -/
theorem wlBox (hw : Region.wanted o (yielded ops a.tmps) = true) (ty : TypeId) (x : Operand) (ho : o.op = .box ty x) (cs : Array Value) (hx : a.eval x = .agg cs)
    (h : ∀ (g : Nat) (w2 : World), w.heap.size ≤ g → g < w2.heap.size → w2.heap[g]? = some (.cells cs ty (0, 0)) → Below w.heap.size w w2 → wpList P ops Q rest (a.put o.dst (.pointer (some ⟨g, 0, none⟩))) w2) : wpList P ops Q (o :: rest) a w :=
  wpList_step fun K hK => by
    rw [if_pos hw]
    have hrun : (execOp a.eval o).run P w = .ok (.value (.pointer (some ⟨w.heap.size, 0, none⟩))) (w.alloc (.cells cs ty)) := by
      unfold execOp
      rw [ho]
      simp only [hx]
      rfl
    unfold Oper.wp
    rw [hrun]
    exact hK _ _ (h _ _ (Nat.le_refl _) (by simp) (heap_alloc_new _ _) ((Below.refl _ _).alloc (Nat.le_refl _) _))
theorem wlAlloc (hw : Region.wanted o (yielded ops a.tmps) = true) (ty : TypeId) (ho : o.op = .alloc ty) (cs : Array Value) (hz : ∀ w, (zeroValue ty).run P w = .ok (.agg cs) w)
    (h : ∀ (g : Nat) (w2 : World), w.heap.size ≤ g → g < w2.heap.size → w2.heap[g]? = some (.cells cs ty (0, 0)) → Below w.heap.size w w2 → wpList P ops Q rest (a.put o.dst (.pointer (some ⟨g, 0, none⟩))) w2) : wpList P ops Q (o :: rest) a w :=
  wpList_step fun K hK => by
    rw [if_pos hw]
    have hrun : (execOp a.eval o).run P w = .ok (.value (.pointer (some ⟨w.heap.size, 0, none⟩))) (w.alloc (.cells cs ty)) := by
      unfold execOp
      rw [ho]
      simp only [Instr.alloc, Sem.run_bind, hz, Result.andThen_ok]
      rfl
    unfold Oper.wp
    rw [hrun]
    exact hK _ _ (h _ _ (Nat.le_refl _) (by simp) (heap_alloc_new _ _) ((Below.refl _ _).alloc (Nat.le_refl _) _))
/-- An operation whose value is known. -/
theorem opVal (hw : Region.wanted o (yielded ops a.tmps) = true) (v : Value) (hrun : (execOp a.eval o).run P w = .ok (.value v) w) (h : wpList P ops Q rest (a.put o.dst v) w) : wpList P ops Q (o :: rest) a w :=
  wpList_step fun K hK => by
    rw [if_pos hw]
    unfold Oper.wp
    rw [hrun]
    exact hK _ _ h
end
theorem infoMap : (Try.prog.info? 23).map (·.size) = some 16 := by kernel_rfl
theorem infoNames : (Try.prog.info? 29).map (·.size) = some 36 := by kernel_rfl
theorem infoUop : (Try.prog.info? 50).map (·.size) = some 23 := by kernel_rfl
theorem infoRen : (Try.prog.info? 52).map (·.size) = some 29 := by kernel_rfl
def zeros16 : List Int := [0, 0, 0, 0, 0, 0, 0, 0, 0, 0, 0, 0, 0, 0, 0, 0]
theorem zeroNames (w : World) : (zeroValue 29).run Try.prog w = .ok (.agg (nm zeros16 zeros16 (.slice none 0 0) 0 0 0)) w := by kernel_rfl
def uZ : UopV := ⟨0, 0, 0, 0, 0, 0, 0, 0, 0, false, 0, 0, 0, 0, 0, 0, false, 0, 0, 0, 0, 0, 0⟩
def rZ : RenV := ⟨uZ, 0, 0, 0, 0, 0, 0⟩
theorem zeroUop (w : World) : (zeroValue 50).run Try.prog w = .ok (.agg (uA uZ)) w := by kernel_rfl
theorem zeroRen (w : World) : (zeroValue 52).run Try.prog w = .ok (.agg (rA rZ)) w := by kernel_rfl

theorem szN {m d : List Int} {S : Value} {h N s : Int} (hm : m.length = 16) (hd : d.length = 16) : (Try.prog.info? 29).map (·.size) = some (nm m d S h N s).size := by rw [nm_size hm hd]; exact infoNames
theorem szE {m d m' d' : List Int} {S S' : Value} {h N s h' N' s' : Int} (hm : m.length = 16) (hd : d.length = 16) (hm' : m'.length = 16) (hd' : d'.length = 16) : (nm m d S h N s).size = (nm m' d' S' h' N' s').size := by rw [nm_size hm hd, nm_size hm' hd']
theorem szM {m : List Int} (hm : m.length = 16) : (Try.prog.info? 23).map (·.size) = some (ma .i64 m).size := by rw [ma_size, hm]; exact infoMap
theorem infoFr : (Try.prog.info? 26).map (·.size) = some 3 := by kernel_rfl

end Go.Proofs.Ytpgighhnhidpcaa.My
