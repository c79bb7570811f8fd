/- What a line does when it is gone through for the first time: as plain data; words for its walk. -/
import Derived.Test.YtaclidjhgpkmpaaDoorAsmDirective
import Derived.Test.YtaclidjhgpkmpaaDoorShelf
import Derived.Test.YtaclidjhgpkmpaaDoorAsmWds
set_option linter.unusedVariables false
set_option linter.unusedSimpArgs false
namespace Go.Proofs.YtaclidjhgpkmpaaDoor.My
open Go.RowKit
open Go (plainElem)
/-- What stands ahead of a semicolon. -/
def codeL (l : List UInt8) : List UInt8 := (Lib.cut l [59]).1
theorem codeL_le (l : List UInt8) : (codeL l).length ≤ l.length := by
  unfold codeL Lib.cut
  split
  · simp only [List.length_take]; omega
  · exact Nat.le_refl _
/-- Words of a line. -/
def wordsP (l : List UInt8) : List (List UInt8) := (wordsL (bs l)).map (·.data.toList)
theorem wordsR_ok (s : ByteArray) : ∀ (b i : Nat) (f : Option Nat), i + b = s.size → (∀ F, f = some F → F < i) → (∀ x ∈ wordsR s b i f, 1 ≤ x.size ∧ x.size ≤ s.size) ∧ (wordsR s b i f).length ≤ b + (if f = none then 0 else 1)
  | 0, i, none, _, _ => ⟨fun x h => absurd h (by simp [wordsR]), by simp [wordsR]⟩
  | 0, i, some F, h, hF => by
    have := hF F rfl
    refine ⟨fun x hx => ?_, by simp [wordsR]⟩
    rw [wordsR, List.mem_singleton] at hx
    subst hx
    rw [ByteArray.size_extract]
    omega
  | b + 1, i, none, h, _ => by
    rw [wordsR]
    split
    · obtain ⟨h1, h2⟩ := wordsR_ok s b (i + 1) none (by omega) (fun F q => by cases q)
      exact ⟨h1, by simp at h2 ⊢; omega⟩
    · obtain ⟨h1, h2⟩ := wordsR_ok s b (i + 1) (some i) (by omega) (fun F q => by injection q with q; omega)
      exact ⟨h1, by simp at h2 ⊢; omega⟩
  | b + 1, i, some F, h, hF => by
    have hFi := hF F rfl
    rw [wordsR]
    split
    · obtain ⟨h1, h2⟩ := wordsR_ok s b (i + 1) none (by omega) (fun F q => by cases q)
      refine ⟨fun x hx => ?_, by simp at h2 ⊢; omega⟩
      rcases List.mem_cons.1 hx with rfl | hx
      · rw [ByteArray.size_extract]; omega
      · exact h1 x hx
    · obtain ⟨h1, h2⟩ := wordsR_ok s b (i + 1) (some F) (by omega) (fun F' q => by injection q with q; omega)
      exact ⟨h1, by simp at h2 ⊢; omega⟩
theorem wordsP_ok (l : List UInt8) : (∀ x ∈ wordsP l, 1 ≤ x.length ∧ x.length ≤ l.length) ∧ (wordsP l).length ≤ l.length := by
  obtain ⟨h1, h2⟩ := wordsR_ok (bs l) (bs l).size 0 none (by omega) (fun F q => by cases q)
  unfold wordsP
  refine ⟨fun x hx => ?_, by rw [List.length_map]; simpa [bs_size, wordsL] using h2⟩
  obtain ⟨y, hy, rfl⟩ := List.mem_map.1 hx
  have := h1 y hy
  rw [bs_size] at this
  have e : y.data.toList.length = y.size := rfl
  omega
theorem wordsP_vals (l : List UInt8) : (wordsL (bs l)).map Value.string = (wordsP l).map (fun x => Value.string (bs x)) := by
  unfold wordsP
  rw [List.map_map]
  rfl
/-- Is a word a label, and which? -/
def hasC (x : List UInt8) : Bool := Lib.hasSuffix x [58]
def trimC (x : List UInt8) : List UInt8 := Lib.trimSuffix x [58]
theorem trimC_le (x : List UInt8) : (trimC x).length ≤ x.length := by
  unfold trimC Lib.trimSuffix
  split
  · simp only [List.length_take]; omega
  · exact Nat.le_refl _
/-- A row is added. -/
def rowV (p : Prg) (ws : List (List UInt8)) : Prg := { p with rows := p.rows ++ [(ws, p.here)] }
/-- What a directive does. -/
def dirV (p : Prg) : Nat → List (List UInt8) → Nat × Prg
  | 1, [x] => orgV p x
  | 2, [x] => spaceV p x
  | 3, [x, y] => equV p x y
  | 4, x :: r => layV p (4 * (x :: r).length) true
  | 5, x :: r => layV p (x :: r).length false
  | _, _ => (2, p)
def doV (p : Prg) : List (List UInt8) → Nat × Prg
  | [] => (0, rowV p [])
  | x :: r => if x.head? = some 46 then dirV (rowV p (x :: r)) (dirK x) r else layV (rowV p (x :: r)) 4 true
/-- What words do, labels ahead. -/
def firstW (p : Prg) : List (List UInt8) → Nat × Prg
  | [] => doV p []
  | x :: r => if hasC x = true then (if (namedV p (trimC x) p.here).1 = 0 then firstW (namedV p (trimC x) p.here).2 r else namedV p (trimC x) p.here) else doV p (x :: r)
def firstV (p : Prg) (l : List UInt8) : Nat × Prg := firstW p (wordsP (codeL l))
theorem rowV_eq {p : Prg} {h : Nat} (hh : p.here = h) (ws : List (List UInt8)) : rowV p ws = { p with rows := p.rows ++ [(ws, h)] } := by unfold rowV; rw [hh]
theorem dirK_le (x : List UInt8) : dirK x ≤ 5 := by
  unfold dirK
  repeat' split
  all_goals decide
theorem dirV_wrong {p : Prg} {k : Nat} {r : List (List UInt8)} (hk : k ≤ 5) (h : k = 0 ∨ (r.length : Int) < dirL k ∨ (0 ≤ dirM k ∧ dirM k < r.length)) : dirV p k r = (2, p) := by
  unfold dirV
  split
  · exfalso; rcases h with h | h | h <;> simp [dirL, dirM] at h
  · exfalso; rcases h with h | h | h <;> simp [dirL, dirM] at h
  · exfalso; rcases h with h | h | h <;> simp [dirL, dirM] at h
  · exfalso; rcases h with h | h | h <;> simp [dirL, dirM] at h; omega
  · exfalso; rcases h with h | h | h <;> simp [dirL, dirM] at h; omega
  · rfl
theorem named_len (p : Prg) (s : List UInt8) (v : Nat) : (namedV p s v).2.vals.length ≤ p.vals.length + 1 ∧ (namedV p s v).2.names.length ≤ p.names.length + 1 ∧ (namedV p s v).2.here = p.here ∧ (namedV p s v).2.rows = p.rows := by
  unfold namedV
  split
  · exact ⟨by simp, by simp, rfl, rfl⟩
  split
  · exact ⟨by simp, by simp, rfl, rfl⟩
  · exact ⟨by simp, by simp, rfl, rfl⟩
theorem cut59_any (s : List UInt8) (m : Int) (w : World) (hs : s.length ≤ 1000000) (hm : w.cell? ⟨3, 0, none⟩ = some (.int .i64 m)) : Calls Tryd.prog 36 #[.string (bs s), .string ⟨#[59]⟩] w fun e w' => (∃ x b, e = .returned (.tuple #[.string (bs (codeL s)), .string x, .bool b])) ∧ Below w.heap.size w w' := by
  refine (Tryd.strings_Cut (bs s) ⟨#[59]⟩ m w (by rw [bs_size]; omega) hm).mono ?_
  rintro e w' ⟨rfl, n, rfl⟩
  exact ⟨⟨_, _, rfl⟩, below_dn (Below.refl _ _) n⟩
theorem hasC_any (x : List UInt8) (w : World) (hx : x.length ≤ 1000000) : Calls Tryd.prog 38 #[.string (bs x), .string ⟨#[58]⟩] w fun e w' => e = .returned (.bool (hasC x)) ∧ w = w' :=
  (Tryd.strings_HasSuffix (bs x) ⟨#[58]⟩ w (by rw [bs_size]; omega)).mono fun _ _ h => ⟨h.1, h.2.symm⟩
theorem trimC_any (x : List UInt8) (w : World) (hx : x.length ≤ 1000000) : Calls Tryd.prog 40 #[.string (bs x), .string ⟨#[58]⟩] w fun e w' => e = .returned (.string (bs (trimC x))) ∧ w = w' :=
  (Tryd.strings_TrimSuffix (bs x) ⟨#[58]⟩ w (by rw [bs_size]; omega)).mono fun _ _ h => ⟨h.1, h.2.symm⟩
/-- Words that the call has made are words that are read. -/
theorem own_rdw {w : World} {B : Nat} {v : Value} {ws : List (List UInt8)} (h : w.ownsRow B 9 1 v ws.length (ws.map fun x => Value.string (bs x))) : ∃ A c, v = .slice A ws.length c ∧ ws.length ≤ c ∧ RdW w A ws ∧ (∀ a, A = some a → 0 < ws.length → B ≤ a.block ∧ a.block < w.heap.size) := by
  rcases h.2 with ⟨rfl, h0⟩ | ⟨g, cap, cur, rfl, hB, hg, hcap, hsz, _, hcur⟩
  · refine ⟨none, 0, by rw [h0], Nat.le_of_eq h0, fun q => by omega, fun a ha => by cases ha⟩
  · refine ⟨_, cap, rfl, hcap, fun _ => ⟨g, 0, rfl, fun j s hj => ?_⟩, fun a ha _ => ?_⟩
    · have hjl : j < ws.length := (List.getElem?_eq_some_iff.1 hj).1
      rw [cell_of_row w g (0 + j) _ _ _ hg, Nat.zero_add]
      have h2 : (cur.toList.take (ws.length * 1))[j]? = some (.string (bs s)) := by rw [hcur, List.getElem?_map, hj]; rfl
      rw [Nat.mul_one, List.getElem?_take_of_lt hjl, Array.getElem?_toList] at h2
      exact h2
    · injection ha with ha
      subst ha
      exact ⟨hB, (Array.getElem?_eq_some_iff.1 hg).1⟩
theorem own_words {w : World} {B : Nat} {v : Value} {l : List UInt8} (h : Own w B v (wordsL (bs l))) : ∃ A c, v = .slice A (wordsP l).length c ∧ (wordsP l).length ≤ c ∧ RdW w A (wordsP l) ∧ (∀ a, A = some a → 0 < (wordsP l).length → B ≤ a.block ∧ a.block < w.heap.size) := by
  refine own_rdw (B := B) ?_
  unfold Own at h
  rw [wordsP_vals] at h
  have e : (wordsL (bs l)).length = (wordsP l).length := by unfold wordsP; rw [List.length_map]
  rw [e] at h
  exact h
theorem PrgPost.after {w w1 w' : World} {B : Nat} {s s1 : PS} {R : Nat × Prg} {e : Ending} (h : PrgPost w1 B s1 R e w') (hT : Turn s.ms w w1) (hn : s.nxt w s1) : PrgPost w B s R e w' :=
  ⟨h.1, hT.trans h.2.1 hn.2, fun h0 => by
    obtain ⟨s', rs', a, b⟩ := h.2.2 h0
    exact ⟨s', rs', PS.nxt_trans hn a hT.size, b⟩⟩
theorem infoRo : (Tryd.prog.info? 71).map (fun i => (i.zero, i.size, i.bytes)) = some (some (.agg #[.slice none 0 0, .int .u32 0]), 2, 32) := by kernel_rfl
theorem infoSro : (Tryd.prog.info? 66).map (·.size) = some 1 := by kernel_rfl
theorem infoS1 : (Tryd.prog.info? 9).map (·.size) = some 1 := by kernel_rfl
theorem row_one (r : RowM) : (rowA r).all (·.oneCell') = true := by simp [rowA, Value.oneCell']
section
variable {P : Program} {ops : Array Oper} {o : Oper} {a : Act} {w : World} {Q : Exit → Act → World → Prop} {rest : List Oper} {K : Act → World → Prop} {E : Prop}
theorem run_tailS (t : TypeId) (ht : P.underlying t = some (.slice 9)) (hs : (P.info? 9).map (·.size) = some 1) (b off cap N : Nat) (s : List UInt8) (ws : List (List UInt8)) (hN : N = ws.length + 1) (hc : N ≤ cap) (k : IntKind) :
    ∃ off' cap', (∀ w, (Instr.sliceAt t (.slice (some ⟨b, off, none⟩) N cap) (some (.int k 1)) none none).run P w = .ok (.slice (some ⟨b, off', none⟩) ws.length cap') w) ∧ ws.length ≤ cap' ∧ (∀ w, RdW w (some ⟨b, off, none⟩) (s :: ws) → RdW w (some ⟨b, off', none⟩) ws) := by
  subst hN
  have e2 : P.elem t = 9 := by simp [Program.elem, ht]
  have ht2 : P.underlying t = some (.slice (P.elem t)) := by rw [e2]; exact ht
  have hr := fun w => run_slice_l (P := P) (w := w) t (some ⟨b, off, none⟩) (ws.length + 1) cap ht2 k 1 (by omega) (by omega)
  have hr0 := fun w => run_sliceAt_slice (P := P) (w := w) t (.slice (some ⟨b, off, none⟩) (ws.length + 1) cap) (some (.int k 1)) none none ht2
  have hz : ∀ w, (sizeOf (P.elem t)).run P w = .ok 1 w := fun w => by
    rw [e2]
    cases hq : P.info? 9 with
    | none => simp [hq] at hs
    | some q =>
      have : q.size = 1 := by simpa [hq] using hs
      simp [sizeOf, typeInfo, hq, this]
  by_cases hcap : cap = 1
  · have h0 : ws = [] := List.length_eq_zero_iff.1 (by omega)
    have hv : sliced (some ⟨b, off, none⟩) (1 : Int).toNat (ws.length + 1) cap 1 = .slice (some ⟨b, off, none⟩) ws.length (cap - 1) := by simp [sliced, hcap]
    refine ⟨off, cap - 1, fun w => ?_, by omega, fun w _ => by rw [h0]; exact RdW.nil _ _⟩
    have h1 := hr0 w
    rw [hr w, hz w, Result.andThen_ok, hv] at h1
    exact h1
  · have hv : sliced (some ⟨b, off, none⟩) (1 : Int).toNat (ws.length + 1) cap 1 = .slice (some ⟨b, off + 1, none⟩) ws.length (cap - 1) := by
      have : ¬ cap = 1 := hcap
      simp [sliced, this, Addr.add]
    refine ⟨off + 1, cap - 1, fun w => ?_, by omega, fun w hR => hR.tail⟩
    have h1 := hr0 w
    rw [hr w, hz w, Result.andThen_ok, hv] at h1
    exact h1
/-- The words without their first one. -/
theorem slRd (hw : Region.wanted o (yielded ops a.tmps) = true) (t : TypeId) (x lo : Operand) (ho : o.op = .slice t x (some lo) none none) (b off cap N off' n' cap' : Nat) (hx : a.eval x = .slice (some ⟨b, off, none⟩) N cap) (k : IntKind) (hy : a.eval lo = .int k 1)
    (hr : ∀ w, (Instr.sliceAt t (.slice (some ⟨b, off, none⟩) N cap) (some (.int k 1)) none none).run P w = .ok (.slice (some ⟨b, off', none⟩) n' cap') w)
    (hk : wpList P ops Q rest (a.put o.dst (.slice (some ⟨b, off', none⟩) n' cap')) w) : wpList P ops Q (o :: rest) a w := by
  refine wpList_step fun K hK => ?_
  rw [if_pos hw]
  unfold Oper.wp execOp
  simp only [ho, hx, hy, Option.map_some, Option.map_none, Sem.run_bind, Sem.run_pure, hr, Result.andThen_ok]
  exact hK _ _ hk
theorem yieldsSl {S : World → Prop} (hw : Region.wanted o (yielded ops a.tmps) = true) (t : TypeId) (x lo : Operand) (ho : o.op = .slice t x (some lo) none none) (b off cap N off' n' cap' : Nat) (hx : a.eval x = .slice (some ⟨b, off, none⟩) N cap) (k : IntKind) (hy : a.eval lo = .int k 1)
    (hr : ∀ w, (Instr.sliceAt t (.slice (some ⟨b, off, none⟩) N cap) (some (.int k 1)) none none).run P w = .ok (.slice (some ⟨b, off', none⟩) n' cap') w) : YieldsIf P ops S o (.slice (some ⟨b, off', none⟩) n' cap') a :=
  .inl ⟨hw, fun w _ => by
    unfold execOp
    simp only [ho, hx, hy, Option.map_some, Option.map_none, Sem.run_bind, Sem.run_pure, hr, Result.andThen_ok]⟩
/-- One row appended, in a region that draws its order. -/
theorem rgAppRow (hgd : Region.wanted o (yielded ops a.tmps) = true) (s x : Operand) (t e : TypeId) (z : Value) (k bytes : Nat) (ho : o.op = .call { callee := .builtin .append, args := #[s, x], argTypes := #[t, t] })
    (ht : P.underlying t = some (.slice e)) (hinfo : (P.info? e).map (fun i => (i.zero, i.size, i.bytes)) = some (some z, k, bytes)) (hzc : z.cells.size = k) (hk : 0 < k)
    (B : Nat) (v : Value) (n : Nat) (xs : List Value) (hs : a.eval s = v) (hown : w.ownsRow B e k v n xs) (cs : Array Value) (hcs : cs.size = k) (h1 : cs.all (·.oneCell') = true) (g c : Nat) {tt : TypeId} {fr : Nat × Nat}
    (hx : a.eval x = .slice (some ⟨g, 0, none⟩) 1 c) (hg : w.heap[g]? = some (.cells cs tt fr)) (h63 : n + 1 ≤ maxLen) (hb : (n + 1) * bytes ≤ 140737488355328) (hB : B ≤ w.heap.size)
    (h : ∀ (v' : Value) (w2 : World), w2.ownsRow B e k v' (n + 1) (xs ++ cs.toList) → w.grownBy w2 v.ownBlock → (v'.ownBlock = v.ownBlock ∨ v'.ownBlock = some w.heap.size) → K (a.put o.dst v') w2) :
    if Region.wanted o (yielded ops a.tmps) = true then Oper.wp P o a w K Q else E := by
  obtain ⟨i0, hi, hzz⟩ := Option.map_eq_some_iff.1 hinfo
  simp only [Prod.mk.injEq] at hzz
  obtain ⟨hz0, hz1, hz2⟩ := hzz
  rw [if_pos hgd]
  obtain ⟨v', w', hrun, h2, h3, h4, h5⟩ := run_append_own_at (P := P) w B t o.type e i0 z k bytes ht hi hz0 hz1 hz2 hzc hk v n xs hown ⟨g, 0, none⟩ 1 c cs.toList (by simp [hcs]) (fun j q hj => by
      rw [addr_add, cell_of_row w g (0 + j) _ _ _ hg, Nat.zero_add, ← Array.getElem?_toList]
      exact hj) (fun q hq => by
      rw [Array.all_eq_true_iff_forall_mem] at h1
      exact h1 q (by simpa using hq)) h63 hb hB
  unfold Oper.wp execOp
  simp only [ho, resolve, invoke, builtin, Sem.run_bind, Sem.run_pure, Result.andThen_ok, List.map_toArray, List.map_cons, List.map_nil, hs, hx, hrun]
  exact h v' w' h2 h3 h5
end
section
variable {P : Program} {ops : Array Oper} {Q : Exit → Act → World → Prop} {md : Region.Mode} {S : World → Prop}
/-- Operations that wait on operation i, one through the other. -/
def hasDep (md : Region.Mode) (o : Oper) (i : Nat) (D : List Nat) : Bool := o.after.any (fun e => Region.binds md e && (e.on == i || D.contains e.on))
def depOkD (md : Region.Mode) (ops : Array Oper) (l : Array Bool) (c i : Nat) (D : List Nat) : Bool :=
  (D.all fun d => !(l.getD d true) && (match ops[d]? with | some od => hasDep md od i D | none => false)) && (match ops[c]? with | some oc => hasDep md oc i D | none => false)
theorem unl_lt {l : Array Bool} {i : Nat} (h0 : l.getD i true = false) (h1 : l.getD i false = true) : False := by
  rcases Nat.lt_or_ge i l.size with h' | h'
  · simp [h'] at h0 h1; rw [h0] at h1; cases h1
  · simp [Array.getElem?_eq_none h'] at h1
theorem not_ready {l : Array Bool} {i x : Nat} {ox : Oper} {D : List Nat} (hi : l.getD i true = false) (hD : ∀ d ∈ D, l.getD d true = false) (hox : ops[x]? = some ox) (h : hasDep md ox i D = true) : x ∉ Region.ready md ops l := fun q => by
  obtain ⟨_, o, ho, hall⟩ := mem_ready.1 q
  rw [hox] at ho
  injection ho with ho
  subst ho
  unfold hasDep at h
  rw [Array.any_eq_true] at h
  obtain ⟨k, hk, h2⟩ := h
  rw [Bool.and_eq_true, Bool.or_eq_true, beq_iff_eq, List.contains_iff_mem] at h2
  have h1 := hall _ (Array.getElem_mem hk) h2.1
  rcases h2.2 with e | e
  · rw [e] at h1; exact unl_lt hi h1
  · exact unl_lt (hD _ e) h1
theorem wpAnyC_firstD {c i : Nat} {oi oc : Oper} {v : Value} {D : List Nat} (hi : ops[i]? = some oi) (hoc : ops[c]? = some oc) (hcd : hasDep md oc i D = true) (hDd : ∀ d ∈ D, ∃ od, ops[d]? = some od ∧ hasDep md od i D = true) (hci : c ≠ i) (hsel : ∀ (j : Nat) (o : Oper) cs b, ops[j]? = some o → o.op ≠ .select cs b)
    (hQ : ∀ c a w, Q (.panic c) (a.put oi.dst v) w → Q (.panic c) a w) :
    ∀ (fuel : Nat) (listed : Array Bool) (a : Act) (w : World),
      (∀ j oj, ops[j]? = some oj → j ≠ i → listed.getD j true = false → (∀ e ∈ oj.after, Region.binds md e = true → e.on ≠ i) → oi.apart ops oj = true) → (∀ d ∈ D, listed.getD d true = false) →
      i ∈ Region.ready md ops listed → listed.getD c false = false → YieldsIf P ops S oi v a → S w →
      wpAnyC P md ops Q S c fuel (listed.setIfInBounds i true) (a.put oi.dst v) w → wpAnyC P md ops Q S c (fuel + 1) listed a w := by
  intro fuel
  induction fuel with
  | zero =>
    intro listed a w _ _ hr hc hy hS H
    refine ⟨fun h => (by rw [h] at hr; cases hr), fun j hj => ?_⟩
    by_cases hji : j = i
    · subst hji; exact hy.wpOp hi hS ⟨.inr hS, H⟩
    · have := ready_mono hj hji
      rw [H.1] at this
      cases this
  | succ fuel ih =>
    intro listed a w hfree hD hr hc hy hS H
    refine ⟨fun h => (by rw [h] at hr; cases hr), fun j hj => ?_⟩
    by_cases hji : j = i
    · subst hji; exact hy.wpOp hi hS ⟨.inr hS, H⟩
    · have h1 := H.2 j (ready_mono hj hji)
      have hi0 := (mem_ready.1 hr).1
      have hjc : j ≠ c := fun he => not_ready hi0 hD hoc hcd (he ▸ hj)
      have hjD : ∀ d ∈ D, j ≠ d := fun d hd he => by
        obtain ⟨od, h2, h3⟩ := hDd d hd
        exact not_ready hi0 hD h2 h3 (he ▸ hj)
      obtain ⟨hjun, oj, hoj, hall⟩ := mem_ready.1 hj
      have hnot : ∀ e ∈ oj.after, Region.binds md e = true → e.on ≠ i := fun e he hb heq => by
        have h1 := hall e he hb
        rw [heq] at h1
        exact unl_lt hi0 h1
      have hc2 : (listed.setIfInBounds j true).getD c false = false := by rw [getD_set_ne false hjc]; exact hc
      have hc3 : ((listed.setIfInBounds i true).setIfInBounds j true).getD c false = false := by rw [getD_set_ne false hjc, getD_set_ne false (Ne.symm hci)]; exact hc
      have h2 := wpOp_putIf hoj (hfree j oj hoj hji hjun hnot) (fun cs b => hsel i oi cs b hi) (fun cs b => hsel j oj cs b hoj) hQ hy h1
      have hfree' : ∀ k ok, ops[k]? = some ok → k ≠ i → (listed.setIfInBounds j true).getD k true = false →
          (∀ e ∈ ok.after, Region.binds md e = true → e.on ≠ i) → oi.apart ops ok = true := fun k ok hk hki hun hno => by
        refine hfree k ok hk hki ?_ hno
        by_cases hjk : j = k
        · subst hjk; exact hjun
        · rw [getD_set_ne true hjk] at hun; exact hun
      have hD' : ∀ d ∈ D, (listed.setIfInBounds j true).getD d true = false := fun d hd => by rw [getD_set_ne true (hjD d hd)]; exact hD d hd
      refine wpOp_mono (fun a' w' h3 => ?_) h2
      have hS' : S w' := h3.2.1.resolve_left (by rw [hc3]; decide)
      refine ⟨.inr hS', ih (listed.setIfInBounds j true) a' w' hfree' hD' (ready_mono hr (Ne.symm hji)) hc2 h3.1 hS' ?_⟩
      rw [Array.setIfInBounds_comm _ _ hji]
      exact h3.2.2
theorem rgTakeD {c i : Nat} {N : Option Tmp} {oi : Oper} {v : Value} {fuel : Nat} {l : Array Bool} {a : Act} {w : World} (D : List Nat) (l' : Array Bool) (hi : ops[i]? = some oi) (hN : oi.dst = N) (hc : takeOk md ops l l' i = true) (hd : (depOkD md ops l c i D && (!(l.getD c false) && decide (c ≠ i))) = true)
    (hQ : ∀ c a w, Q (.panic c) (a.put N v) w → Q (.panic c) a w) (hy : YieldsIf P ops S oi v a) (hS : Hid (S w))
    (h : wpAnyC P md ops Q S c fuel l' (a.put N v) w) : wpAnyC P md ops Q S c (fuel + 1) l a w := by
  unfold takeOk at hc
  rw [Bool.and_eq_true, Bool.and_eq_true, Bool.and_eq_true, decide_eq_true_eq] at hc
  obtain ⟨h1, h2, h3, rfl⟩ := hc
  rw [Bool.and_eq_true, Bool.and_eq_true, decide_eq_true_eq, Bool.not_eq_true'] at hd
  obtain ⟨d1, d2, d3⟩ := hd
  unfold depOkD at d1
  rw [Bool.and_eq_true, List.all_eq_true] at d1
  subst hN
  cases hoc : ops[c]? with
  | none => rw [hoc] at d1; exact absurd d1.2 (by simp)
  | some oc =>
    rw [hoc] at d1
    refine wpAnyC_firstD hi hoc d1.2 (fun d hd => ?_) d3 (Region.noSelect_spec h1) hQ fuel l a w (Region.free_spec hi h2) (fun d hd => ?_) (by simpa using h3) d2 hy hS.out h
    · have := d1.1 d hd
      rw [Bool.and_eq_true] at this
      cases hod : ops[d]? with
      | none => rw [hod] at this; exact absurd this.2 (by simp)
      | some od => rw [hod] at this; exact ⟨od, rfl, this.2⟩
    · have := d1.1 d hd
      rw [Bool.and_eq_true, Bool.not_eq_true'] at this
      exact this.1
/-- A call ahead of the one that is held. -/
theorem rgCallD {c i : Nat} {N : Option Tmp} {oi : Oper} {fuel : Nat} {l : Array Bool} {a : Act} {w : World} (l' : Array Bool) (hi : ops[i]? = some oi) (hN : oi.dst = N) (hc : callOk md ops l l' i = true)
    (h : ∀ K' : Act → World → Prop, Shut (∀ a w, S w → (Hid (S w) → wpAnyC P md ops Q S c fuel l' a w) → K' a w) → if Region.wanted oi (yielded ops a.tmps) = true then Oper.wp P oi a w K' Q else K' (a.put N undef) w) :
    wpAnyC P md ops Q S c (fuel + 1) l a w := by
  unfold callOk at hc
  rw [Bool.and_eq_true, decide_eq_true_eq, decide_eq_true_eq] at hc
  obtain ⟨h1, rfl⟩ := hc
  subst hN
  refine ⟨fun h0 => (by rw [h1] at h0; cases h0), fun j hj => ?_⟩
  rw [h1] at hj
  have hji : j = i := by simpa using hj
  subst hji
  exact wpOp_step hi (fun K' hK => h K' (fun a w hS hW => hK a w ⟨.inr hS, hW hS⟩))
end
section
variable {P : Program} {ops : Array Oper} {o : Oper} {a : Act} {w : World} {Q : Exit → Act → World → Prop} {K : Act → World → Prop} {E : Prop}
/-- One element laid in a block of its own, in a region that draws its order. -/
theorem rgLit (hw : Region.wanted o (yielded ops a.tmps) = true) (t : TypeId) (m : Nat) (parts : Array (Nat × Operand)) (ho : o.op = .buildSlice t m parts) (cs : Array Value) (e : TypeId)
    (hrun : ∀ w, (execOp a.eval o).run P w = .ok (.value (.slice (some ⟨w.heap.size, 0, none⟩) m m)) (w.alloc (.cells cs e)))
    (h : ∀ (g : Nat) (w2 : World), w.heap.size ≤ g → g < w2.heap.size → w2.heap[g]? = some (.cells cs e (0, 0)) → Below w.heap.size w w2 → K (a.put o.dst (.slice (some ⟨g, 0, none⟩) m m)) w2) : if Region.wanted o (yielded ops a.tmps) = true then Oper.wp P o a w K Q else E := by
  rw [if_pos hw]
  unfold Oper.wp
  rw [hrun]
  exact h _ _ (Nat.le_refl _) (by simp) (heap_alloc_new _ _) ((Below.refl _ _).alloc (Nat.le_refl _) _)
end
theorem PrgAt.addRowG {g : Nat} {w w1 w2 : World} {B : Nat} {s : PS} {p : Prg} {rs : List RowM} {x : RowM} {v' : Value} {cs : Array Value} (hgP : s.gP = g) (hcs : rowA x = cs) (h : PrgAt w B s p rs) (hx : RdW w x.A x.ws ∧ Out x.A x.ws.length s.ms ∧ x.at_ ≤ 16384 ∧ x.ws.length ≤ x.c ∧ x.ws.length ≤ 100000) (hg : w.grownBy w1 s.rv.ownBlock) (hv : v'.ownBlock = s.rv.ownBlock ∨ v'.ownBlock = some w.heap.size)
    (hown : w1.ownsRow B 71 2 v' (rs.length + 1) (rowsC rs ++ cs.toList)) (ho : Only g w1 w2) (hc : w2.heap[g]? = some (.cells ((prgA s p).setIfInBounds 0 v') 68 (0, 0))) : PrgAt w2 B { s with rv := v' } { p with rows := p.rows ++ [x.v] } (rs ++ [x]) ∧ s.nxt w { s with rv := v' } ∧ Turn s.ms w w2 := by
  subst hgP hcs
  exact h.addRow (Nat.le_trans (h.ge _ s.mem_P) (Nat.le_of_lt (h.lt _ s.mem_P))) hx hg hv hown ho hc
theorem PrgAt.grownCells {g : Nat} {w w1 : World} {B : Nat} {s : PS} {p : Prg} {rs : List RowM} (hgP : s.gP = g) (h : PrgAt w B s p rs) (hg : w.grownBy w1 s.rv.ownBlock) : w1.heap[g]? = some (.cells (prgA s p) 68 (0, 0)) := by
  subst hgP
  exact (hg.block _ (h.lt _ s.mem_P) (fun q => (h.PM.2.2.2.2.2.2.1 _ q.symm).1 rfl)).trans h.cells
theorem named_at {g : Nat} (B : Nat) (s : PS) (p : Prg) (rs : List RowM) (x : List UInt8) (n : Nat) (w : World) (hg : s.gP = g) (hp : PrgAt w B s p rs) (hx : x.length ≤ 1000000) (hn : n < 4294967296) (hvl : p.vals.length ≤ 1000000000) (hnl : p.names.length ≤ 1000000000) :
    Calls Tryd.prog 39 #[.pointer (some ⟨g, 0, none⟩), .string (bs x), .int .u32 (n : Nat)] w fun e w' => PrgPost w B s (namedV p x n) e w' := hg ▸ named_any B s p rs x n w hp hx hn hvl hnl
theorem lay_at {g : Nat} (B : Nat) (s : PS) (p : Prg) (rs : List RowM) (n : Nat) (whole : Bool) (w : World) (hg : s.gP = g) (hp : PrgAt w B s p rs) (hn : n ≤ 1000000) :
    Calls Tryd.prog 41 #[.pointer (some ⟨g, 0, none⟩), .int .i64 (n : Nat), .bool whole] w fun e w' => PrgPost w B s (layV p n whole) e w' := hg ▸ lay_any B s p rs n whole w hp hn
end Go.Proofs.YtaclidjhgpkmpaaDoor.My
