/- Words of this chapter: what of memory may have turned; a map of names; a program that is read, as it lies in memory. -/
import Derived.Test.YtaclidjhgpkmpaaDoorTextRows
import Derived.Test.YtaclidjhgpkmpaaDoorTextDec
import Derived.Maps.OwnOps
import Derived.Maps.OwnSet
import Derived.Maps.Views
set_option linter.unusedVariables false
set_option linter.unusedSimpArgs false
namespace Go.Proofs.YtaclidjhgpkmpaaDoor.My
open Go.RowKit
open Go.Maps (Keyed string_keyed)
open Go.WideMaps (keyOf_string_mk)
open Go (plainElem)
/-- Of the old blocks only these may have turned. -/
structure Turn (ms : List Nat) (w w' : World) : Prop where
  os : w'.os = w.os
  tape : w'.tape = w.tape
  output : w'.output = w.output
  size : w.heap.size ≤ w'.heap.size
  block : ∀ k, k < w.heap.size → k ∉ ms → w'.heap[k]? = w.heap[k]?
theorem Turn.refl (ms : List Nat) (w : World) : Turn ms w w := ⟨rfl, rfl, rfl, Nat.le_refl _, fun _ _ _ => rfl⟩
theorem Turn.of_below {ms : List Nat} {w w' : World} (h : Below w.heap.size w w') : Turn ms w w' := ⟨h.os, h.tape, h.output, h.size, fun k hk _ => h.block k hk⟩
theorem Turn.of_only {ms : List Nat} {g : Nat} {w w' : World} (h : Only g w w') (hg : g ∈ ms) : Turn ms w w' :=
  ⟨h.os, h.tape, h.output, Nat.le_of_eq h.size.symm, fun k _ hk => h.block k (fun e => hk (e ▸ hg))⟩
theorem Turn.of_grown {ms : List Nat} {r : Option Nat} {w w' : World} (h : w.grownBy w' r) (hr : ∀ k, r = some k → k ∈ ms) : Turn ms w w' :=
  ⟨h.os, h.tape, h.output, h.size, fun k hk hn => h.block k hk (fun e => hn (hr k e.symm))⟩
theorem Turn.trans {ms ms2 : List Nat} {w w1 w2 : World} (h : Turn ms w w1) (h2 : Turn ms2 w1 w2) (hs : ∀ k ∈ ms2, k ∈ ms ∨ w.heap.size ≤ k) : Turn ms w w2 :=
  ⟨h2.os.trans h.os, h2.tape.trans h.tape, h2.output.trans h.output, Nat.le_trans h.size h2.size, fun k hk hn => (h2.block k (Nat.lt_of_lt_of_le hk h.size) (fun q => by rcases hs k q with r | r; exact hn r; omega)).trans (h.block k hk hn)⟩
theorem Turn.toBelow {ms : List Nat} {B : Nat} {w w' : World} (h : Turn ms w w') (hB : B ≤ w.heap.size) (hm : ∀ k ∈ ms, B ≤ k) : Below B w w' :=
  ⟨h.os, h.tape, h.output, h.size, fun k hk => h.block k (by omega) (fun q => by have := hm k q; omega)⟩
theorem keepT {ms : List Nat} {w0 w w' : World} (h : Hid (Turn ms w0 w)) (hb : Below w.heap.size w w') : Hid (Turn ms w0 w') := h.out.trans (Turn.of_below (ms := []) hb) (fun k hk => by cases hk)
theorem keepTo {ms : List Nat} {g : Nat} {w0 w w' : World} (h : Hid (Turn ms w0 w)) (hg : g ∈ ms ∨ w0.heap.size ≤ g) (ho : Only g w w') : Hid (Turn ms w0 w') :=
  h.out.trans (Turn.of_only (ms := [g]) ho (List.mem_singleton.2 rfl)) (fun k hk => by rw [List.mem_singleton.1 hk]; exact hg)
theorem keepTt {ms ms2 : List Nat} {w0 w w' : World} (h : Hid (Turn ms w0 w)) (ht : Turn ms2 w w') (hs : ∀ k ∈ ms2, k ∈ ms ∨ w0.heap.size ≤ k) : Hid (Turn ms w0 w') := h.out.trans ht hs
/-- A slice of texts that is read. -/
def RdW (w : World) (A : Option Addr) (ws : List (List UInt8)) : Prop := 0 < ws.length → ∃ b off, A = some ⟨b, off, none⟩ ∧ ∀ j s, ws[j]? = some s → w.cell? ⟨b, off + j, none⟩ = some (.string (bs s))
def Out (A : Option Addr) (n : Nat) (ms : List Nat) : Prop := ∀ a, A = some a → 0 < n → a.block ∉ ms
theorem RdW.lt {w : World} {A : Option Addr} {ws : List (List UInt8)} (h : RdW w A ws) : ∀ a, A = some a → 0 < ws.length → a.block < w.heap.size := fun a ha hn => by
  obtain ⟨b, off, hA, hc⟩ := h hn
  rw [hA] at ha
  injection ha with ha
  subst ha
  exact World.block_lt_of_cell? w _ (hc 0 _ (List.getElem?_eq_getElem hn))
theorem RdW.turn {w w' : World} {A : Option Addr} {ws : List (List UInt8)} {ms : List Nat} (h : RdW w A ws) (ht : Turn ms w w') (ho : Out A ws.length ms) : RdW w' A ws := fun hn => by
  have hlt := h.lt
  obtain ⟨b, off, rfl, hc⟩ := h hn
  refine ⟨b, off, rfl, fun j s hs => ?_⟩
  have h1 := hc j s hs
  have h2 := ht.block b (hlt _ rfl hn) (ho _ rfl hn)
  unfold World.cell? at h1 ⊢
  simp only at h1 ⊢
  rw [h2]
  exact h1
theorem RdW.below {w w' : World} {A : Option Addr} {ws : List (List UInt8)} (h : RdW w A ws) (hb : Below w.heap.size w w') : RdW w' A ws := h.turn (Turn.of_below (ms := []) hb) (fun a _ _ q => by cases q)
theorem Out.next {w : World} {A : Option Addr} {n : Nat} {ms ms2 : List Nat} (h : Out A n ms) (hlt : ∀ a, A = some a → 0 < n → a.block < w.heap.size) (hs : ∀ k ∈ ms2, k ∈ ms ∨ w.heap.size ≤ k) : Out A n ms2 := fun a ha hn q => by
  rcases hs _ q with r | r
  · exact h a ha hn r
  · have := hlt a ha hn; omega
theorem RdW.tail {w : World} {b off : Nat} {s : List UInt8} {ws : List (List UInt8)} (h : RdW w (some ⟨b, off, none⟩) (s :: ws)) : RdW w (some ⟨b, off + 1, none⟩) ws := fun hn => by
  obtain ⟨b', off', hA, hc⟩ := h (by simp)
  injection hA with hA
  injection hA with h1 h2 _
  subst h1; subst h2
  refine ⟨b, off + 1, rfl, fun j t ht => ?_⟩
  have := hc (j + 1) t (by simpa using ht)
  rwa [show off + (j + 1) = off + 1 + j by omega] at this
theorem RdW.nil (w : World) (A : Option Addr) : RdW w A [] := fun h => absurd h (Nat.lt_irrefl 0)
/-- A name's value. -/
def findV (ns : List (List UInt8 × Nat)) (s : List UInt8) : Option Nat := (ns.find? (fun p => p.1 == s)).map (·.2)
theorem find_app (ns : List (List UInt8 × Nat)) (t : List UInt8) (v : Nat) (s : List UInt8) : findV (ns ++ [(t, v)]) s = (findV ns s).or (if t = s then some v else none) := by
  unfold findV
  rw [List.find?_append]
  cases ns.find? (fun p => p.1 == s) with
  | some p => rfl
  | none =>
    by_cases h : t = s
    · simp [h]
    · simp [h]
theorem keyedS : Keyed Tryd.prog 9 := string_keyed Tryd.underlying9
/-- A map of names, as it lies in memory. -/
def MapIs (w : World) (g : Nat) (ns : List (List UInt8 × Nat)) : Prop :=
  ∃ (n : Nat) (D : DataW Unit), w.ownsMap Tryd.prog 9 (plainElem Tryd.prog 25) g n D ∧ n ≤ ns.length ∧ Maps.IsMap D ∧
    ∀ s : List UInt8, Maps.has D (.string s) = (findV ns s).isSome ∧ D.atKey (.string s) (.lit (.int .u32 0)) = .lit (.int .u32 (((findV ns s).getD 0 : Nat) : Int))
theorem MapIs.lt {w : World} {g : Nat} {ns : List (List UInt8 × Nat)} (h : MapIs w g ns) : g < w.heap.size := by
  obtain ⟨n, D, h1, _⟩ := h
  exact h1.lt
theorem MapIs.kept {w w' : World} {g : Nat} {ns : List (List UInt8 × Nat)} {r : Option Nat} (h : MapIs w g ns) (hg : w.grownBy w' r) (hne : some g ≠ r) : MapIs w' g ns := by
  obtain ⟨n, D, h1, h2⟩ := h
  exact ⟨n, D, h1.kept hg hne, h2⟩
theorem grown_turn {ms : List Nat} {w w' : World} (h : Turn ms w w') {g : Nat} (hg : g ∉ ms) : w.grownBy w' none ∨ True := .inr trivial
theorem MapIs.turn {w w' : World} {g : Nat} {ns : List (List UInt8 × Nat)} {ms : List Nat} (h : MapIs w g ns) (ht : Turn ms w w') (hg : g ∉ ms) : MapIs w' g ns := by
  have hlt := h.lt
  obtain ⟨n, D, ⟨es, clock, h1, h2⟩, h3⟩ := h
  exact ⟨n, D, ⟨es, clock, (ht.block g hlt hg).trans h1, h2⟩, h3⟩
theorem MapIs.new (w : World) : MapIs (w.alloc (.map #[] 0)) w.heap.size [] :=
  ⟨0, .map [], World.ownsMap_made _ _ _ _, Nat.le_refl _, Maps.isMap_empty, fun s => ⟨rfl, rfl⟩⟩
theorem zeroU32 (w : World) : (zeroValue 25).run Tryd.prog w = .ok (.int .u32 0) w := by kernel_rfl
theorem keyS {s : List UInt8} (h : s.length ≤ 1000000) : keyOf Tryd.prog 9 (.string (bs s)) = some (.string s) := by
  have := keyOf_string_mk Tryd.underlying9 (s := bs s) (by rw [bs_size]; unfold maxLen; omega)
  exact this
section
variable {ops : Array Oper} {o : Oper} {a : Act} {w : World} {Q : Exit → Act → World → Prop} {rest : List Oper}
/-- 'v, ok := m[k]'. -/
theorem mapLook (hg : o.guard = none) (m x : Operand) (hop : o.op = Op.lookup 64 m x true) (g : Nat) (ns : List (List UInt8 × Nat)) (hm : a.eval m = .map (some g)) (h : MapIs w g ns) (s : List UInt8) (hx : a.eval x = .string (bs s)) (hs : s.length ≤ 1000000) (r : Option Nat) (hr : findV ns s = r)
    (hK : wpList Tryd.prog ops Q rest (a.put o.dst (.tuple #[.int .u32 ((r.getD 0 : Nat) : Int), .bool r.isSome])) w) : wpList Tryd.prog ops Q (o :: rest) a w := by
  subst hr
  obtain ⟨n, D, h1, h2, h3, h4⟩ := h
  obtain ⟨h5, h6⟩ := h4 s
  refine wpList_lookup_own_ok_int (H := Unit) w hg m x 64 hop 9 25 .u32 keyedS Tryd.underlying64 Tryd.underlying25 (zeroU32 w) g n D hm h1 (.string (bs s)) (.string s) hx (keyS hs) ?_
  intro c hc _
  rw [h6] at hc
  injection hc with hc
  injection hc with _ hc
  rw [h5, ← hc]
  exact hK
theorem mapPut (hg : o.guard = none) (m x v : Operand) (hop : o.op = Op.mapUpdate 64 m x v) (g : Nat) (ns : List (List UInt8 × Nat)) (hm : a.eval m = .map (some g)) (h : MapIs w g ns) (s : List UInt8) (hx : a.eval x = .string (bs s)) (hs : s.length ≤ 1000000) (n : Nat) (hv : a.eval v = .int .u32 (n : Int)) (hn : n < 4294967296) (hl : ns.length ≤ 1000000000) (hf : findV ns s = none)
    (hK : ∀ w2 : World, MapIs w2 g (ns ++ [(s, n)]) → w.grownBy w2 (some g) → wpList Tryd.prog ops Q rest (a.put o.dst undef) w2) : wpList Tryd.prog ops Q (o :: rest) a w := by
  obtain ⟨k, D, h1, h2, h3, h4⟩ := h
  have hwf : (Lit.int .u32 (n : Int)).wf = true := by
    simp [Lit.wf, IntKind.has, IntKind.min, IntKind.max, IntKind.signed, IntKind.bits]
    omega
  refine wpList_mapUpdate_own (H := Unit) w hg m x v 64 hop 9 25 keyedS Tryd.underlying64 (plainElem Tryd.prog 25) g k D hm h1 (by unfold maxLen; omega) (.string (bs s)) (.int .u32 (n : Int)) (.string s) hx hv (keyS hs) (.lit (.int .u32 (n : Int))) [] (plainElem_int Tryd.underlying25 hwf) ?_
  intro w2 hown hgr
  refine hK w2 ⟨k + 1, D.put (.string s) (.lit (.int .u32 (n : Int))), hown, by rw [List.length_append]; simp; omega, h3.put _ _, fun t => ?_⟩ hgr
  rw [find_app]
  by_cases e : s = t
  · subst e
    rw [hf, if_pos rfl]
    exact ⟨Maps.has_put_same h3 (show WideAt.IsKeyLit (Lit.string s) from trivial) _, Maps.atKey_put_same h3 (show WideAt.IsKeyLit (Lit.string s) from trivial) _ _⟩
  · rw [if_neg e, Option.or_none]
    have hne : (Lit.string t) ≠ .string s := fun q => by injection q with q; exact e q.symm
    exact ⟨(Maps.has_put_other hne _).trans (h4 t).1, (Maps.atKey_put_other hne _ _).trans (h4 t).2⟩
end
theorem mapRun {w : World} {g : Nat} {ns : List (List UInt8 × Nat)} (h : MapIs w g ns) {s : List UInt8} (hs : s.length ≤ 1000000) {r : Option Nat} (hr : findV ns s = r) : (Instr.lookup 64 (.map (some g)) (.string (bs s)) true).run Tryd.prog w = .ok (.tuple #[.int .u32 ((r.getD 0 : Nat) : Int), .bool r.isSome]) w := by
  subst hr
  obtain ⟨n, D, h1, h2, h3, h4⟩ := h
  obtain ⟨h5, h6⟩ := h4 s
  obtain ⟨v, ps, hrun, hv⟩ := World.ownsMap.look_ok (H := Unit) h1 keyedS Tryd.underlying64 (zeroU32 w) (plainElem_int Tryd.underlying25 (by decide)) (keyS hs)
  obtain ⟨c, rfl, hc, _⟩ := plainElem_int_inv Tryd.underlying25 hv
  have hc2 : D.atKey (.string s) (.lit (.int .u32 0)) = .lit (.int .u32 c) := congrArg Prod.fst hc
  have hc3 := (Lit.int.inj (DataW.lit.inj (h6.symm.trans hc2))).2
  rw [h5, ← hc3] at hrun
  exact hrun
theorem yieldsLook {ops : Array Oper} {o : Oper} {a : Act} {S : World → Prop} (hw : Region.wanted o (yielded ops a.tmps) = true) (m x : Operand) (hop : o.op = Op.lookup 64 m x true) (g : Nat) (ns : List (List UInt8 × Nat)) (hm : a.eval m = .map (some g)) (s : List UInt8) (hx : a.eval x = .string (bs s)) (hs : s.length ≤ 1000000) (r : Option Nat) (hr : findV ns s = r) (hS : ∀ w, S w → MapIs w g ns) : YieldsIf Tryd.prog ops S o (.tuple #[.int .u32 ((r.getD 0 : Nat) : Int), .bool r.isSome]) a :=
  .inl ⟨hw, fun w h => by
    unfold execOp
    simp only [hop, hm, hx, Sem.run_bind, mapRun (hS w h) hs hr, Result.andThen_ok]
    rfl⟩
end Go.Proofs.YtaclidjhgpkmpaaDoor.My
