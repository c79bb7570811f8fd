/- Words: a slice of renamed Uops that the call makes, cut at its head and at its end, appended to. -/
import Derived.Test.YtpgighhnhidpcaaRenGroup
import Derived.ArgAppend
import Derived.OwnWalk
set_option linter.unusedVariables false
set_option linter.unusedSimpArgs false
namespace Go.Proofs.Ytpgighhnhidpcaa.My
open Go.RowKit
def flat (fl : List RenV) : List Value := fl.flatMap fun r => (rA r).toList
theorem flat_cons (r : RenV) (fl : List RenV) : flat (r :: fl) = (rA r).toList ++ flat fl := rfl
theorem flat_app (fl fm : List RenV) : flat (fl ++ fm) = flat fl ++ flat fm := by simp [flat]
theorem flat_one (r : RenV) : flat [r] = (rA r).toList := by simp [flat]
theorem flat_length : ∀ fl : List RenV, (flat fl).length = fl.length * 29
  | [] => rfl
  | r :: fl => by
    rw [flat_cons, List.length_append, flat_length fl, List.length_cons]
    show 29 + _ = _
    omega
theorem flat_rows (fl : List RenV) : flat fl = (fl.map rA).flatMap Array.toList := by simp [flat, List.flatMap_map]
/-- A slice of those that fly, room for cap, in memory of the call's own from block B on. -/
def TailR (w : World) (B : Nat) (A : Option Addr) (cap : Nat) (fl : List RenV) : Prop :=
  (fl = [] ∧ cap = 0) ∨ ∃ g off pre post, A = some ⟨g, off, none⟩ ∧ B ≤ g ∧ w.heap[g]? = some (.cells (pre ++ (flat fl ++ post)).toArray 52 (0, 0)) ∧ pre.length = off ∧ fl.length ≤ cap ∧ cap ≤ maxLen ∧ (cap - fl.length) * 29 ≤ post.length
theorem TailR.rd {w : World} {B : Nat} {A : Option Addr} {cap : Nat} {fl : List RenV} (h : TailR w B A cap fl) : RwA w A 29 fl.length (fl.map rA) := by
  refine ⟨by simp, rows_size fl, fun hn => ?_⟩
  rcases h with ⟨rfl, _⟩ | ⟨g, off, pre, post, h1, _, h3, h4, _⟩
  · simp at hn
  · refine ⟨g, off, h1, (Array.getElem?_eq_some_iff.1 h3).1, fun j r hj i v hv => ?_⟩
    have := row_mid h3 h4 (j * 29 + i) v (by rw [flat_rows]; exact flat_get (rows_size fl) hj hv)
    rwa [show off + j * 29 + i = off + (j * 29 + i) by omega]
theorem TailR.below {w w' : World} {B : Nat} {A : Option Addr} {cap : Nat} {fl : List RenV} (h : TailR w B A cap fl) (hb : Below w.heap.size w w') : TailR w' B A cap fl := by
  rcases h with h1 | ⟨g, off, pre, post, h1, h2, h3, h4⟩
  · exact .inl h1
  · exact .inr ⟨g, off, pre, post, h1, h2, (hb.block g (Array.getElem?_eq_some_iff.1 h3).1).trans h3, h4⟩
theorem TailR.only {w w' : World} {B k : Nat} {A : Option Addr} {cap : Nat} {fl : List RenV} (h : TailR w B A cap fl) (ho : Only k w w') (hk : ∀ b, A = some b → 0 < cap → b.block ≠ k) : TailR w' B A cap fl := by
  rcases h with h1 | ⟨g, off, pre, post, h1, h2, h3, h4, h5, h6⟩
  · exact .inl h1
  · by_cases hc : 0 < cap
    · exact .inr ⟨g, off, pre, post, h1, h2, (ho.block g (hk _ h1 hc)).trans h3, h4, h5, h6⟩
    · exact .inl ⟨List.eq_nil_of_length_eq_zero (by omega), by omega⟩
theorem TailR.lt {w : World} {B : Nat} {A : Option Addr} {cap : Nat} {fl : List RenV} (h : TailR w B A cap fl) : ∀ b, A = some b → 0 < cap → B ≤ b.block ∧ b.block < w.heap.size := by
  intro b hb hc
  rcases h with ⟨_, h1⟩ | ⟨g, off, pre, post, h1, h2, h3, _⟩
  · omega
  · rw [h1] at hb
    injection hb with hb
    subst hb
    exact ⟨h2, (Array.getElem?_eq_some_iff.1 h3).1⟩
theorem TailR.drew {w : World} {B : Nat} {A : Option Addr} {cap : Nat} {fl : List RenV} (h : TailR w B A cap fl) (m : Nat) : TailR (w.drewN m) B A cap fl := h
theorem TailR.of_own {w : World} {B : Nat} {v : Value} {fl : List RenV} (h : w.ownsRow B 52 29 v fl.length (flat fl)) : ∃ A cap, v = .slice A fl.length cap ∧ TailR w B A cap fl ∧ (∀ a, A = some a → B ≤ a.block) := by
  rcases h.2 with ⟨rfl, hn⟩ | ⟨g, cap, cur, rfl, hg, hh, hnc, hcm, hsz, htk⟩
  · have : fl = [] := List.eq_nil_of_length_eq_zero hn
    subst this
    exact ⟨none, 0, rfl, .inl ⟨rfl, rfl⟩, fun a ha => by cases ha⟩
  · refine ⟨_, cap, rfl, .inr ⟨g, 0, [], cur.toList.drop (fl.length * 29), rfl, hg, ?_, rfl, hnc, hcm, ?_⟩, fun a ha => by injection ha with ha; subst ha; exact hg⟩
    · rw [hh, List.nil_append, ← htk, List.take_append_drop]
    · rw [List.length_drop]
      simp only [Array.length_toList]
      rw [hsz, ← Nat.sub_mul]
      exact Nat.le_refl _
section
variable {P : Program} {ops : Array Oper} {o : Oper} {a : Act} {w : World} {Q : Exit → Act → World → Prop} {rest : List Oper}
theorem sizeR (hs : (P.info? 52).map (·.size) = some 29) (w : World) : (sizeOf 52).run P w = .ok 29 w := by
  cases hq : P.info? 52 with
  | none => simp [hq] at hs
  | some q =>
    have : q.size = 29 := by simpa [hq] using hs
    simp [sizeOf, typeInfo, hq, this]
/-- The list without its first one. -/
theorem slHead (hw : Region.wanted o (yielded ops a.tmps) = true) (t : TypeId) (x lo : Operand) (ho : o.op = .slice t x (some lo) none none) (ht : P.underlying t = some (.slice 52)) (hs : (P.info? 52).map (·.size) = some 29) (B : Nat) (A : Option Addr) (cap : Nat) (r : RenV) (fl : List RenV) (hx : a.eval x = .slice A (fl.length + 1) cap) (k : IntKind) (hy : a.eval lo = .int k 1) (hT : TailR w B A cap (r :: fl))
    (hk : ∀ (A' : Option Addr) (cap' : Nat), TailR w B A' cap' fl → (∀ b, A' = some b → 0 < cap' → ∃ b0, A = some b0 ∧ 0 < cap ∧ b.block = b0.block) → wpList P ops Q rest (a.put o.dst (.slice A' fl.length cap')) w) : wpList P ops Q (o :: rest) a w :=
  wpList_step fun K hK => by
    rw [if_pos hw]
    unfold Oper.wp execOp
    have e2 : P.elem t = 52 := by simp [Program.elem, ht]
    have ht2 : P.underlying t = some (.slice (P.elem t)) := by rw [e2]; exact ht
    have hr := run_slice_l (P := P) (w := w) t A (fl.length + 1) cap ht2 k 1 (by omega) (by omega)
    have hr0 := run_sliceAt_slice (P := P) (w := w) t (.slice A (fl.length + 1) cap) (some (.int k 1)) none none ht2
    have hz : (sizeOf (P.elem t)).run P w = .ok 29 w := by rw [e2]; exact sizeR hs w
    rw [hr, hz, Result.andThen_ok] at hr0
    rcases hT with ⟨h1, _⟩ | ⟨g, off, pre, post, rfl, hg, hh, hof, hnc, hcm, hsz⟩
    · cases h1
    · simp only [List.length_cons] at hnc hsz
      by_cases hcap : cap = 1
      · have hv : sliced (some ⟨g, off, none⟩) (1 : Int).toNat (fl.length + 1) cap 29 = .slice (some ⟨g, off, none⟩) fl.length (cap - 1) := by
          simp [sliced, hcap]
        rw [hv] at hr0
        simp only [ho, hx, hy, Option.map_some, Option.map_none, Sem.run_bind, Sem.run_pure, hr0, Result.andThen_ok]
        exact hK _ _ (hk _ _ (.inl ⟨List.eq_nil_of_length_eq_zero (by omega), by omega⟩) (fun b hb hc => by omega))
      · have hv : sliced (some ⟨g, off, none⟩) (1 : Int).toNat (fl.length + 1) cap 29 = .slice (some ⟨g, off + 29, none⟩) fl.length (cap - 1) := by
          simp [sliced, hcap, Addr.add]
        rw [hv] at hr0
        simp only [ho, hx, hy, Option.map_some, Option.map_none, Sem.run_bind, Sem.run_pure, hr0, Result.andThen_ok]
        refine hK _ _ (hk _ _ (.inr ⟨g, off + 29, pre ++ (rA r).toList, post, rfl, hg, ?_, ?_, by omega, by omega, ?_⟩) (fun b hb hc => ⟨_, rfl, by omega, by injection hb with hb; subst hb; rfl⟩))
        · rw [hh, flat_cons]
          simp only [List.append_assoc]
        · rw [List.length_append, hof]; rfl
        · rw [show cap - 1 - fl.length = cap - (fl.length + 1) by omega]; exact hsz
/-- The list without its last one. -/
theorem slLast (hw : Region.wanted o (yielded ops a.tmps) = true) (t : TypeId) (x hi : Operand) (ho : o.op = .slice t x none (some hi) none) (ht : P.underlying t = some (.slice 52)) (hs : (P.info? 52).map (·.size) = some 29) (B : Nat) (A : Option Addr) (cap : Nat) (r : RenV) (fl : List RenV) (hx : a.eval x = .slice A (fl.length + 1) cap) (k : IntKind) (z : Int) (hy : a.eval hi = .int k z) (hz1 : z = (fl.length : Int)) (hT : TailR w B A cap (fl ++ [r]))
    (hk : TailR w B A cap fl → wpList P ops Q rest (a.put o.dst (.slice A fl.length cap)) w) : wpList P ops Q (o :: rest) a w :=
  wpList_step fun K hK => by
    rw [if_pos hw]
    unfold Oper.wp execOp
    subst hz1
    have e2 : P.elem t = 52 := by simp [Program.elem, ht]
    have ht2 : P.underlying t = some (.slice (P.elem t)) := by rw [e2]; exact ht
    rcases hT with ⟨h1, _⟩ | ⟨g, off, pre, post, rfl, hg, hh, hof, hnc, hcm, hsz⟩
    · simp at h1
    · simp only [List.length_append, List.length_cons, List.length_nil] at hnc hsz
      have hr := run_slice_h (P := P) (w := w) t (some ⟨g, off, none⟩) (fl.length + 1) cap ht2 k (fl.length : Int) (by omega) (by omega)
      have hr0 := run_sliceAt_slice (P := P) (w := w) t (.slice (some ⟨g, off, none⟩) (fl.length + 1) cap) none (some (.int k (fl.length : Int))) none ht2
      have hz : (sizeOf (P.elem t)).run P w = .ok 29 w := by rw [e2]; exact sizeR hs w
      rw [hr, hz, Result.andThen_ok] at hr0
      have hv : sliced (some ⟨g, off, none⟩) 0 (fl.length : Int).toNat cap 29 = .slice (some ⟨g, off, none⟩) fl.length cap := by
        simp [sliced, Addr.add]
      rw [hv] at hr0
      simp only [ho, hx, hy, Option.map_some, Option.map_none, Sem.run_bind, Sem.run_pure, hr0, Result.andThen_ok]
      refine hK _ _ (hk (.inr ⟨g, off, pre, (rA r).toList ++ post, rfl, hg, ?_, hof, by omega, hcm, ?_⟩))
      · rw [hh, flat_app, flat_one]
        simp only [List.append_assoc]
      · rw [List.length_append]
        show _ ≤ 29 + _
        omega
theorem appTailR (hgd : o.guard = none) (s x : Operand) (t : TypeId) (ho : o.op = .call { callee := .builtin .append, args := #[s, x], argTypes := #[t, t] })
    (ht : P.underlying t = some (.slice 52)) (z : Value) (hinfo : (P.info? 52).map (fun i => (i.zero, i.size, i.bytes)) = some (some z, 29, 216)) (hzc : z.cells.size = 29)
    (B : Nat) (A : Option Addr) (cap : Nat) (fl : List RenV) (hs : a.eval s = .slice A fl.length cap) (hT : TailR w B A cap fl) (r : RenV) (gL c : Nat) {tt : TypeId} {fr : Nat × Nat}
    (hx : a.eval x = .slice (some ⟨gL, 0, none⟩) 1 c) (hg : w.heap[gL]? = some (.cells (rA r) tt fr)) (hn : fl.length ≤ 1000000) (hB : B ≤ w.heap.size)
    (h : ∀ (A' : Option Addr) (cap' : Nat) (w2 : World), TailR w2 B A' cap' (fl ++ [r]) → (∀ k, k < w.heap.size → (∀ b, A = some b → 0 < cap → k ≠ b.block) → w2.heap[k]? = w.heap[k]?) → (A' = A ∧ 0 < cap ∨ Fresh w.heap.size A') → Below B w w2 → wpList P ops Q rest (a.put o.dst (.slice A' (fl.length + 1) cap')) w2) :
    wpList P ops Q (o :: rest) a w := by
  obtain ⟨i0, hi, hzz⟩ := Option.map_eq_some_iff.1 hinfo
  simp only [Prod.mk.injEq] at hzz
  obtain ⟨hz0, hz1, hz2⟩ := hzz
  have c1 : ∀ j u, (rA r).toList[j]? = some u → w.cell? ((⟨gL, 0, none⟩ : Addr).add j) = some u := fun j u hj => by
    rw [addr_add, cell_of_row w gL (0 + j) _ _ _ hg, Nat.zero_add, ← Array.getElem?_toList]
    exact hj
  have c2 : ∀ u ∈ (rA r).toList, u.oneCell' = true := fun u hu => by
    have := rA_one r
    rw [Array.all_eq_true_iff_forall_mem] at this
    exact this u (by simpa using hu)
  have grow : ∀ (v' : Value) (w2 : World), w2.ownsRow w.heap.size 52 29 v' (fl.length + 1) (flat fl ++ (rA r).toList) → w.grownBy w2 none → wpList P ops Q rest (a.put o.dst v') w2 := by
    intro v' w2 h1 h2
    have e : flat fl ++ (rA r).toList = flat (fl ++ [r]) := by rw [flat_app, flat_one]
    rw [e, show fl.length + 1 = (fl ++ [r]).length by simp] at h1
    obtain ⟨A', cap', rfl, h3, h4⟩ := TailR.of_own h1
    rw [show (fl ++ [r]).length = fl.length + 1 by simp]
    refine h A' cap' w2 ?_ (fun k hk _ => h2.block k hk (by simp)) (.inr h4) ((Below.refl B w).grown h2 hB (by intro k hk; cases hk))
    rcases h3 with q1 | ⟨g, off, pre, post, q1, q2, q3⟩
    · exact .inl q1
    · exact .inr ⟨g, off, pre, post, q1, by omega, q3⟩
  rcases hT with ⟨rfl, rfl⟩ | ⟨g, off, pre, post, rfl, hgB, hh, hof, hnc, hcm, hsz⟩
  · exact wpList_append_grows _ hgd s x t ho 52 i0 z 29 216 ht hi hz0 hz1 hz2 hzc (by omega) A 0 0 [] hs (fun _ => ⟨rfl, rfl⟩) rfl (fun b hb j u hj => by cases hj) ⟨gL, 0, none⟩ 1 c (rA r).toList hx rfl c1 c2 (by omega) (by unfold maxLen; omega) (by omega) grow
  · refine wpList_append_arg _ hgd s x t ho 52 i0 z 29 216 ht hi hz0 hz1 hz2 hzc (by omega) g off fl.length cap (flat fl) hs (flat_length fl) (fun j u hj => row_mid hh hof j u hj) ⟨gL, 0, none⟩ 1 c (rA r).toList hx rfl c1 c2 ?_ (by unfold maxLen; omega) (by omega) ?_ ?_
    · intro hroom j hj
      have hj29 : j < 29 := hj
      have hp : j < post.length := by
        have : 29 ≤ (cap - fl.length) * 29 := by
          have : 1 ≤ cap - fl.length := by omega
          omega
        omega
      refine ⟨?_, frozen_of_row w g _ _ _ hh⟩
      have h3 := row_mid (pre := pre ++ flat fl) (mid := post) (post := []) (by rw [List.append_nil, List.append_assoc]; exact hh) (o := off + fl.length * 29) (by rw [List.length_append, hof, flat_length]) j _ (List.getElem?_eq_getElem hp)
      rw [h3]
      rfl
    · intro hroom
      have h29 : 29 ≤ post.length := by
        have : 29 ≤ (cap - fl.length) * 29 := by
          have : 1 ≤ cap - fl.length := by omega
          omega
        omega
      have hsp : pre ++ (flat fl ++ post) = (pre ++ flat fl) ++ (post.take 29 ++ post.drop 29) := by rw [List.take_append_drop, List.append_assoc]
      have hh2 : w.heap[g]? = some (.cells ((pre ++ flat fl) ++ (post.take 29 ++ post.drop 29)).toArray 52 (0, 0)) := by rw [← hsp]; exact hh
      obtain ⟨h5, h6⟩ := setCells_mid g (rA r).toList (pre ++ flat fl) (post.take 29) (post.drop 29) w hh2 (by rw [List.length_take, Nat.min_eq_left h29]; rfl)
      have hlen : (pre ++ flat fl).length = off + fl.length * 29 := by rw [List.length_append, hof, flat_length]
      rw [hlen] at h5 h6
      refine h (some ⟨g, off, none⟩) cap _ (.inr ⟨g, off, pre, post.drop 29, rfl, hgB, ?_, hof, by simpa using hroom, hcm, ?_⟩) (fun k hk hne => h6.block k (hne _ rfl (by omega))) (.inl ⟨rfl, by omega⟩) ⟨h6.os, h6.tape, h6.output, by rw [h6.size]; exact Nat.le_refl _, fun k hk => h6.block k (by omega)⟩
      · rw [h5, flat_app, flat_one]
        simp only [List.append_assoc]
      · rw [List.length_drop, List.length_append]
        show (cap - (fl.length + 1)) * 29 ≤ _
        omega
    · intro _ v' w2 h1 h2
      exact grow v' w2 h1 h2
end
end Go.Proofs.Ytpgighhnhidpcaa.My
