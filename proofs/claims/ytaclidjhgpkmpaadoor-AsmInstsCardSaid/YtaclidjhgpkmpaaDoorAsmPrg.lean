/- A program that is read: as plain data, and as it lies in memory. -/
import Derived.Test.YtaclidjhgpkmpaaDoorAsmWords
set_option linter.unusedVariables false
set_option linter.unusedSimpArgs false
namespace Go.Proofs.YtaclidjhgpkmpaaDoor.My
open Go.RowKit
/-- A program that is read. -/
structure Prg where
  rows : List (List (List UInt8) × Nat)
  names : List (List UInt8 × Nat)
  vals : List (List UInt8 × Nat)
  here : Nat
  data : List UInt8
  laid : List Bool
/-- A row as it lies in memory. -/
structure RowM where
  A : Option Addr
  c : Nat
  ws : List (List UInt8)
  at_ : Nat
def RowM.v (r : RowM) : List (List UInt8) × Nat := (r.ws, r.at_)
def rowA (r : RowM) : Array Value := #[.slice r.A r.ws.length r.c, .int .u32 r.at_]
def rowsC (rs : List RowM) : List Value := rs.flatMap fun r => (rowA r).toList
def nmrA (p : List UInt8 × Nat) : Array Value := #[.string (bs p.1), .int .u32 p.2]
def nmsC (ns : List (List UInt8 × Nat)) : List Value := ns.flatMap fun p => (nmrA p).toList
/-- Cells of truth values. -/
def mb (l : List Bool) : Array Value := (l.map Value.bool).toArray
/-- Where a program lies. -/
structure PS where
  rv : Value
  nv : Value
  gP : Nat
  gM : Nat
  gD : Nat
  gL : Nat
def PS.ms (s : PS) : List Nat := [s.gP, s.gM, s.gD, s.gL] ++ (s.rv.ownBlock.toList ++ s.nv.ownBlock.toList)
abbrev slF (g : Nat) : Value := .slice (some ⟨g, 0, none⟩) 16384 16384
def prgA (s : PS) (p : Prg) : Array Value := #[s.rv, s.nv, .map (some s.gM), .int .i64 (p.here : Nat), slF s.gD, slF s.gL]
/-- A program lies so in memory, from block B on. -/
structure PrgAt (w : World) (B : Nat) (s : PS) (p : Prg) (rs : List RowM) : Prop where
  cells : w.heap[s.gP]? = some (.cells (prgA s p) 68 (0, 0))
  rows : w.ownsRow B 71 2 s.rv rs.length (rowsC rs)
  rok : ∀ r ∈ rs, RdW w r.A r.ws ∧ Out r.A r.ws.length s.ms ∧ r.at_ ≤ 16384 ∧ r.ws.length ≤ r.c ∧ r.ws.length ≤ 100000
  prow : p.rows = rs.map RowM.v
  names : w.ownsRow B 50 2 s.nv p.names.length (nmsC p.names)
  map : MapIs w s.gM p.vals
  data : w.heap[s.gD]? = some (.cells (ma .u8 (ints p.data)) 5 (0, 0))
  laid : w.heap[s.gL]? = some (.cells (mb p.laid) 4 (0, 0))
  ld : p.data.length = 16384
  ll : p.laid.length = 16384
  here : p.here ≤ 16384
  nd : s.ms.Nodup
  ge : ∀ k ∈ s.ms, B ≤ k
  lt : ∀ k ∈ s.ms, k < w.heap.size
theorem own_block {w : World} {B e k n : Nat} {v : Value} {xs : List Value} (h : w.ownsRow B e k v n xs) : ∀ g, v.ownBlock = some g → B ≤ g ∧ g < w.heap.size := fun g hg => by
  rcases h.2 with ⟨rfl, _⟩ | ⟨j, cap, cur, rfl, h2, h3, _⟩
  · cases hg
  · simp only [Value.ownBlock, Option.some.injEq] at hg
    subst hg
    exact ⟨h2, (Array.getElem?_eq_some_iff.1 h3).1⟩
theorem ownk_turn {w w' : World} {B e k n : Nat} {v : Value} {xs : List Value} {ms : List Nat} (h : w.ownsRow B e k v n xs) (ht : Turn ms w w') (ho : ∀ g, v.ownBlock = some g → g ∉ ms) : w'.ownsRow B e k v n xs := by
  refine ⟨h.1, ?_⟩
  rcases h.2 with h | ⟨j, cap, cur, rfl, h2, h3, h4⟩
  · exact .inl h
  · exact .inr ⟨j, cap, cur, rfl, h2, (ht.block j (Array.getElem?_eq_some_iff.1 h3).1 (ho j rfl)).trans h3, h4⟩
theorem PS.mem_P (s : PS) : s.gP ∈ s.ms := by simp [PS.ms]
theorem PS.mem_M (s : PS) : s.gM ∈ s.ms := by simp [PS.ms]
theorem PS.mem_D (s : PS) : s.gD ∈ s.ms := by simp [PS.ms]
theorem PS.mem_L (s : PS) : s.gL ∈ s.ms := by simp [PS.ms]
theorem PS.mem_rv (s : PS) {g : Nat} (h : s.rv.ownBlock = some g) : g ∈ s.ms := by simp [PS.ms, h]
theorem PS.mem_nv (s : PS) {g : Nat} (h : s.nv.ownBlock = some g) : g ∈ s.ms := by simp [PS.ms, h]
/-- What nobody writes keeps the program. -/
theorem PrgAt.turn {w w' : World} {B : Nat} {s : PS} {p : Prg} {rs : List RowM} {ms : List Nat} (h : PrgAt w B s p rs) (ht : Turn ms w w') (hd : ∀ k ∈ s.ms, k ∉ ms) (hr : ∀ r ∈ rs, Out r.A r.ws.length ms) : PrgAt w' B s p rs where
  cells := (ht.block _ (h.lt _ s.mem_P) (hd _ s.mem_P)).trans h.cells
  rows := ownk_turn h.rows ht (fun g hg => hd g (s.mem_rv hg))
  rok := fun r m => ⟨(h.rok r m).1.turn ht (hr r m), (h.rok r m).2⟩
  prow := h.prow
  names := ownk_turn h.names ht (fun g hg => hd g (s.mem_nv hg))
  map := h.map.turn ht (hd _ s.mem_M)
  data := (ht.block _ (h.lt _ s.mem_D) (hd _ s.mem_D)).trans h.data
  laid := (ht.block _ (h.lt _ s.mem_L) (hd _ s.mem_L)).trans h.laid
  ld := h.ld
  ll := h.ll
  here := h.here
  nd := h.nd
  ge := h.ge
  lt := fun k hk => Nat.lt_of_lt_of_le (h.lt k hk) ht.size
theorem PrgAt.below {w w' : World} {B : Nat} {s : PS} {p : Prg} {rs : List RowM} (h : PrgAt w B s p rs) (hb : Below w.heap.size w w') : PrgAt w' B s p rs :=
  h.turn (Turn.of_below (ms := []) hb) (fun _ _ q => by cases q) (fun _ _ _ _ _ q => by cases q)
theorem keepP {w w' : World} {B : Nat} {s : PS} {p : Prg} {rs : List RowM} (h : Hid (PrgAt w B s p rs)) (hb : Below w.heap.size w w') : Hid (PrgAt w' B s p rs) := h.out.below hb
/- The blocks are apart. -/
theorem PrgAt.PM {w : World} {B : Nat} {s : PS} {p : Prg} {rs : List RowM} (h : PrgAt w B s p rs) : s.gP ≠ s.gM ∧ s.gP ≠ s.gD ∧ s.gP ≠ s.gL ∧ s.gM ≠ s.gD ∧ s.gM ≠ s.gL ∧ s.gD ≠ s.gL ∧
    (∀ g, s.rv.ownBlock = some g → s.gP ≠ g ∧ s.gM ≠ g ∧ s.gD ≠ g ∧ s.gL ≠ g) ∧ (∀ g, s.nv.ownBlock = some g → s.gP ≠ g ∧ s.gM ≠ g ∧ s.gD ≠ g ∧ s.gL ≠ g) ∧ (∀ g, s.rv.ownBlock = some g → s.nv.ownBlock ≠ some g) := by
  have hn := h.nd
  unfold PS.ms at hn
  simp only [List.cons_append, List.nil_append, List.nodup_cons, List.mem_cons, not_or, List.mem_append] at hn
  obtain ⟨⟨a1, a2, a3, a4⟩, ⟨b2, b3, b4⟩, ⟨c3, c4⟩, d4, e⟩ := hn
  refine ⟨a1, a2, a3, b2, b3, c3, fun g hg => ?_, fun g hg => ?_, fun g hg q => ?_⟩
  · have hm : g ∈ s.rv.ownBlock.toList := by rw [hg]; simp
    exact ⟨fun q => a4.1 (q ▸ hm), fun q => b4.1 (q ▸ hm), fun q => c4.1 (q ▸ hm), fun q => d4.1 (q ▸ hm)⟩
  · have hm : g ∈ s.nv.ownBlock.toList := by rw [hg]; simp
    exact ⟨fun q => a4.2 (q ▸ hm), fun q => b4.2 (q ▸ hm), fun q => c4.2 (q ▸ hm), fun q => d4.2 (q ▸ hm)⟩
  · rw [hg, q] at e
    simp at e
/-- One of the program's own blocks is written: the rest of it stays. -/
theorem PrgAt.part {w w' : World} {B : Nat} {s : PS} {p : Prg} {rs : List RowM} {g : Nat} (h : PrgAt w B s p rs) (ht : Turn [g] w w') (hg : g ∈ s.ms) :
    (g ≠ s.gP → w'.heap[s.gP]? = some (.cells (prgA s p) 68 (0, 0))) ∧ ((∀ k, s.rv.ownBlock = some k → k ≠ g) → w'.ownsRow B 71 2 s.rv rs.length (rowsC rs)) ∧ (∀ r ∈ rs, RdW w' r.A r.ws ∧ Out r.A r.ws.length s.ms ∧ r.at_ ≤ 16384 ∧ r.ws.length ≤ r.c ∧ r.ws.length ≤ 100000) ∧
    ((∀ k, s.nv.ownBlock = some k → k ≠ g) → w'.ownsRow B 50 2 s.nv p.names.length (nmsC p.names)) ∧ (s.gM ≠ g → MapIs w' s.gM p.vals) ∧ (s.gD ≠ g → w'.heap[s.gD]? = some (.cells (ma .u8 (ints p.data)) 5 (0, 0))) ∧ (s.gL ≠ g → w'.heap[s.gL]? = some (.cells (mb p.laid) 4 (0, 0))) ∧
    (∀ k ∈ s.ms, k < w'.heap.size) := by
  have hs : ∀ {k : Nat}, k ≠ g → k ∉ [g] := fun hk q => hk (List.mem_singleton.1 q)
  refine ⟨fun q => (ht.block _ (h.lt _ s.mem_P) (hs (Ne.symm q))).trans h.cells, fun q => ownk_turn h.rows ht (fun k hk => hs (q k hk)), fun r m => ⟨(h.rok r m).1.turn ht (fun a ha hn => hs (fun e => (h.rok r m).2.1 a ha hn (e ▸ hg))), (h.rok r m).2⟩, fun q => ownk_turn h.names ht (fun k hk => hs (q k hk)),
    fun q => h.map.turn ht (hs q), fun q => (ht.block _ (h.lt _ s.mem_D) (hs q)).trans h.data, fun q => (ht.block _ (h.lt _ s.mem_L) (hs q)).trans h.laid, fun k hk => Nat.lt_of_lt_of_le (h.lt k hk) ht.size⟩
theorem PrgAt.setHere {w w' : World} {B n : Nat} {s : PS} {p : Prg} {rs : List RowM} (h : PrgAt w B s p rs) (ho : Only s.gP w w') (hn : n ≤ 16384) (hc : w'.heap[s.gP]? = some (.cells ((prgA s p).setIfInBounds 3 (.int .i64 (n : Nat))) 68 (0, 0))) : PrgAt w' B s { p with here := n } rs := by
  have hp := h.PM
  obtain ⟨_, h2, h3, h4, h5, h6, h7, h8⟩ := h.part (Turn.of_only (ms := [s.gP]) ho (List.mem_singleton.2 rfl)) s.mem_P
  exact ⟨hc, h2 (fun k hk => Ne.symm (hp.2.2.2.2.2.2.1 k hk).1), h3, h.prow, h4 (fun k hk => Ne.symm (hp.2.2.2.2.2.2.2.1 k hk).1), h5 (Ne.symm hp.1), h6 (Ne.symm hp.2.1), h7 (Ne.symm hp.2.2.1), h.ld, h.ll, hn, h.nd, h.ge, h8⟩
theorem PrgAt.setLaid {w w' : World} {B j : Nat} {s : PS} {p : Prg} {rs : List RowM} {b : Bool} (h : PrgAt w B s p rs) (ho : Only s.gL w w') (hc : w'.heap[s.gL]? = some (.cells ((mb p.laid).setIfInBounds j (.bool b)) 4 (0, 0))) : PrgAt w' B s { p with laid := p.laid.set j b } rs := by
  have hp := h.PM
  obtain ⟨h1, h2, h3, h4, h5, h6, h7, h8⟩ := h.part (Turn.of_only (ms := [s.gL]) ho (List.mem_singleton.2 rfl)) s.mem_L
  refine ⟨h1 (Ne.symm hp.2.2.1), h2 (fun k hk => Ne.symm (hp.2.2.2.2.2.2.1 k hk).2.2.2), h3, h.prow, h4 (fun k hk => Ne.symm (hp.2.2.2.2.2.2.2.1 k hk).2.2.2), h5 hp.2.2.2.2.1, h6 hp.2.2.2.2.2.1, ?_, h.ld, by simpa using h.ll, h.here, h.nd, h.ge, h8⟩
  rw [hc]
  simp only [mb, List.setIfInBounds_toArray, List.map_set]
theorem ints_set (l : List UInt8) (j : Nat) (b : UInt8) : (ints l).set j (b.toNat : Int) = ints (l.set j b) := by
  unfold ints
  rw [List.map_set]
theorem PrgAt.setData {w w' : World} {B j : Nat} {s : PS} {p : Prg} {rs : List RowM} {b : UInt8} (h : PrgAt w B s p rs) (ho : Only s.gD w w') (hc : w'.heap[s.gD]? = some (.cells ((ma .u8 (ints p.data)).setIfInBounds j (.int .u8 (b.toNat : Int))) 5 (0, 0))) : PrgAt w' B s { p with data := p.data.set j b } rs := by
  have hp := h.PM
  obtain ⟨h1, h2, h3, h4, h5, h6, h7, h8⟩ := h.part (Turn.of_only (ms := [s.gD]) ho (List.mem_singleton.2 rfl)) s.mem_D
  refine ⟨h1 (Ne.symm hp.2.1), h2 (fun k hk => Ne.symm (hp.2.2.2.2.2.2.1 k hk).2.2.1), h3, h.prow, h4 (fun k hk => Ne.symm (hp.2.2.2.2.2.2.2.1 k hk).2.2.1), h5 hp.2.2.2.1, ?_, h7 (Ne.symm hp.2.2.2.2.2.1), by simpa using h.ld, h.ll, h.here, h.nd, h.ge, h8⟩
  rw [hc, ma_set, ints_set]
/-- The map has one name more. -/
theorem PrgAt.setMap {w w' : World} {B : Nat} {s : PS} {p : Prg} {rs : List RowM} {ns : List (List UInt8 × Nat)} (h : PrgAt w B s p rs) (hg : w.grownBy w' (some s.gM)) (hm : MapIs w' s.gM ns) : PrgAt w' B s { p with vals := ns } rs := by
  have hp := h.PM
  obtain ⟨h1, h2, h3, h4, h5, h6, h7, h8⟩ := h.part (Turn.of_grown (ms := [s.gM]) hg (fun k hk => by injection hk with hk; exact List.mem_singleton.2 hk.symm)) s.mem_M
  exact ⟨h1 (Ne.symm hp.1), h2 (fun k hk => Ne.symm (hp.2.2.2.2.2.2.1 k hk).2.1), h3, h.prow, h4 (fun k hk => Ne.symm (hp.2.2.2.2.2.2.2.1 k hk).2.1), hm, h6 (Ne.symm hp.2.2.2.1), h7 (Ne.symm hp.2.2.2.2.1), h.ld, h.ll, h.here, h.nd, h.ge, h8⟩
/-- What may have turned behind a step. -/
def PS.nxt (w : World) (s s' : PS) : Prop := s'.gP = s.gP ∧ ∀ k ∈ s'.ms, k ∈ s.ms ∨ w.heap.size ≤ k
theorem PS.nxt_refl (w : World) (s : PS) : s.nxt w s := ⟨rfl, fun k hk => .inl hk⟩
theorem PS.nxt_trans {w w1 : World} {s s1 s2 : PS} (h : s.nxt w s1) (h2 : s1.nxt w1 s2) (hs : w.heap.size ≤ w1.heap.size) : s.nxt w s2 :=
  ⟨h2.1.trans h.1, fun k hk => by rcases h2.2 k hk with q | q; exact h.2 k q; exact .inr (by omega)⟩
theorem own_flat2 {ls : List Value} {n : Nat} (h : ls.length = n * 2) : True := trivial
/-- One more name, appended and laid in. -/
theorem PrgAt.addName {w w1 w2 : World} {B : Nat} {s : PS} {p : Prg} {rs : List RowM} {x : List UInt8 × Nat} {v' : Value} (h : PrgAt w B s p rs) (hB : B ≤ w.heap.size) (hg : w.grownBy w1 s.nv.ownBlock) (hv : v'.ownBlock = s.nv.ownBlock ∨ v'.ownBlock = some w.heap.size)
    (hown : w1.ownsRow B 50 2 v' (p.names.length + 1) (nmsC p.names ++ (nmrA x).toList)) (ho : Only s.gP w1 w2) (hc : w2.heap[s.gP]? = some (.cells ((prgA s p).setIfInBounds 1 v') 68 (0, 0))) : PrgAt w2 B { s with nv := v' } { p with names := p.names ++ [x] } rs ∧ s.nxt w { s with nv := v' } ∧ Turn s.ms w w2 := by
  obtain ⟨p1, p2, p3, p4, p5, p6, p7, p8, p9⟩ := h.PM
  have hx : ∀ g, v'.ownBlock = some g → s.nv.ownBlock = some g ∨ g = w.heap.size := fun g hg => by
    rcases hv with q | q
    · exact .inl (q ▸ hg)
    · right; rw [q] at hg; injection hg with hg; exact hg.symm
  have hne : ∀ k, k ∈ s.ms → (∀ g, s.nv.ownBlock = some g → k ≠ g) → w1.heap[k]? = w.heap[k]? := fun k hk hn => hg.block k (h.lt k hk) (fun e => hn k e.symm rfl)
  have ht1 : Turn s.ms w w1 := Turn.of_grown hg (fun k hk => s.mem_nv hk)
  have ht2 : Turn s.ms w w2 := ht1.trans (Turn.of_only (ms := [s.gP]) ho (List.mem_singleton.2 rfl)) (fun k hk => .inl (by rw [List.mem_singleton.1 hk]; exact s.mem_P))
  have hvP : ∀ g, v'.ownBlock = some g → g ≠ s.gP := fun g hg q => by
    rcases hx g hg with r | r
    · exact (p8 g r).1 q.symm
    · have := h.lt _ s.mem_P; omega
  have hnxt : s.nxt w { s with nv := v' } := ⟨rfl, fun k hk => by
    unfold PS.ms at hk ⊢
    simp only [List.mem_append, Option.mem_toList] at hk ⊢
    rcases hk with hk | hk | hk
    · exact .inl (.inl hk)
    · exact .inl (.inr (.inl hk))
    · rcases hx k hk with r | r
      · exact .inl (.inr (.inr r))
      · exact .inr (Nat.le_of_eq r.symm)⟩
  refine ⟨⟨hc, ?_, ?_, h.prow, ?_, ?_, ?_, ?_, h.ld, h.ll, h.here, ?_, ?_, ?_⟩, hnxt, ht2⟩
  · have r1 : w1.ownsRow B 71 2 s.rv rs.length (rowsC rs) := ownk_turn (ms := s.nv.ownBlock.toList) h.rows (Turn.of_grown hg (fun k hk => by simp [hk])) (fun g hg q => p9 g hg (by simpa using q))
    exact ownk_only r1 (fun j hj => Ne.symm (p7 j hj).1) ho
  · intro r hr
    obtain ⟨q1, q2, q3⟩ := h.rok r hr
    exact ⟨q1.turn ht2 q2, q2.next q1.lt hnxt.2, q3⟩
  · rw [List.length_append]
    have e : nmsC (p.names ++ [x]) = nmsC p.names ++ (nmrA x).toList := by simp [nmsC]
    rw [e]
    exact ownk_only hown hvP ho
  · have m1 : MapIs w1 s.gM p.vals := h.map.turn (ms := s.nv.ownBlock.toList) (Turn.of_grown hg (fun k hk => by simp [hk])) (fun q => (p8 _ (by simpa using q)).2.1 rfl)
    exact m1.turn (Turn.of_only (ms := [s.gP]) ho (List.mem_singleton.2 rfl)) (fun q => p1 (List.mem_singleton.1 q).symm)
  · exact (ho.block _ (Ne.symm p2)).trans ((hne _ s.mem_D (fun g hg => (p8 g hg).2.2.1)).trans h.data)
  · exact (ho.block _ (Ne.symm p3)).trans ((hne _ s.mem_L (fun g hg => (p8 g hg).2.2.2)).trans h.laid)
  · have hn := h.nd
    unfold PS.ms at hn ⊢
    simp only [List.cons_append, List.nil_append, List.nodup_cons, List.mem_cons, not_or, List.mem_append, List.nodup_append] at hn ⊢
    obtain ⟨⟨a1, a2, a3, a4, _⟩, ⟨b2, b3, b4, _⟩, ⟨c3, c4, _⟩, ⟨d4, _⟩, e1, _, _⟩ := hn
    have hv2 : ∀ k, k ∈ s.ms → (∀ g, s.nv.ownBlock = some g → k ≠ g) → k ∉ v'.ownBlock.toList := fun k hk hn q => by
      rcases hx k (by simpa using q) with r | r
      · exact hn k r rfl
      · have := h.lt k hk; omega
    refine ⟨⟨a1, a2, a3, a4, hv2 _ s.mem_P (fun g hg => (p8 g hg).1)⟩, ⟨b2, b3, b4, hv2 _ s.mem_M (fun g hg => (p8 g hg).2.1)⟩, ⟨c3, c4, hv2 _ s.mem_D (fun g hg => (p8 g hg).2.2.1)⟩, ⟨d4, hv2 _ s.mem_L (fun g hg => (p8 g hg).2.2.2)⟩, e1, ?_, ?_⟩
    · cases v'.ownBlock <;> simp
    · intro a ha b hb e
      have ha2 : s.rv.ownBlock = some a := by simpa using ha
      have hb2 : v'.ownBlock = some b := by simpa using hb
      subst e
      rcases hx a hb2 with r | r
      · exact p9 a ha2 r
      · have := h.lt a (s.mem_rv ha2); omega
  · intro k hk
    rcases hnxt.2 k hk with q | q
    · exact h.ge k q
    · omega
  · intro k hk
    rcases hnxt.2 k hk with q | q
    · exact Nat.lt_of_lt_of_le (h.lt k q) ht2.size
    · unfold PS.ms at hk
      simp only [List.mem_append, Option.mem_toList] at hk
      have hlt : ∀ g, v'.ownBlock = some g → g < w2.heap.size := fun g hg => by rw [ho.size]; exact (own_block hown g hg).2
      rcases hk with hk | hk | hk
      · exact Nat.lt_of_lt_of_le (h.lt k (by unfold PS.ms; simp only [List.mem_append]; exact .inl hk)) ht2.size
      · exact Nat.lt_of_lt_of_le (h.lt k (s.mem_rv hk)) ht2.size
      · exact hlt k hk
/-- One more row, appended and laid in. -/
theorem PrgAt.addRow {w w1 w2 : World} {B : Nat} {s : PS} {p : Prg} {rs : List RowM} {x : RowM} {v' : Value} (h : PrgAt w B s p rs) (hB : B ≤ w.heap.size) (hx : RdW w x.A x.ws ∧ Out x.A x.ws.length s.ms ∧ x.at_ ≤ 16384 ∧ x.ws.length ≤ x.c ∧ x.ws.length ≤ 100000) (hg : w.grownBy w1 s.rv.ownBlock) (hv : v'.ownBlock = s.rv.ownBlock ∨ v'.ownBlock = some w.heap.size)
    (hown : w1.ownsRow B 71 2 v' (rs.length + 1) (rowsC rs ++ (rowA x).toList)) (ho : Only s.gP w1 w2) (hc : w2.heap[s.gP]? = some (.cells ((prgA s p).setIfInBounds 0 v') 68 (0, 0))) : PrgAt w2 B { s with rv := v' } { p with rows := p.rows ++ [x.v] } (rs ++ [x]) ∧ s.nxt w { s with rv := v' } ∧ Turn s.ms w w2 := by
  obtain ⟨p1, p2, p3, p4, p5, p6, p7, p8, p9⟩ := h.PM
  have hx2 : ∀ g, v'.ownBlock = some g → s.rv.ownBlock = some g ∨ g = w.heap.size := fun g hg => by
    rcases hv with q | q
    · exact .inl (q ▸ hg)
    · right; rw [q] at hg; injection hg with hg; exact hg.symm
  have hne : ∀ k, k ∈ s.ms → (∀ g, s.rv.ownBlock = some g → k ≠ g) → w1.heap[k]? = w.heap[k]? := fun k hk hn => hg.block k (h.lt k hk) (fun e => hn k e.symm rfl)
  have ht1 : Turn s.ms w w1 := Turn.of_grown hg (fun k hk => s.mem_rv hk)
  have ht2 : Turn s.ms w w2 := ht1.trans (Turn.of_only (ms := [s.gP]) ho (List.mem_singleton.2 rfl)) (fun k hk => .inl (by rw [List.mem_singleton.1 hk]; exact s.mem_P))
  have hvP : ∀ g, v'.ownBlock = some g → g ≠ s.gP := fun g hg q => by
    rcases hx2 g hg with r | r
    · exact (p7 g r).1 q.symm
    · have := h.lt _ s.mem_P; omega
  have hnxt : s.nxt w { s with rv := v' } := ⟨rfl, fun k hk => by
    unfold PS.ms at hk ⊢
    simp only [List.mem_append, Option.mem_toList] at hk ⊢
    rcases hk with hk | hk | hk
    · exact .inl (.inl hk)
    · rcases hx2 k hk with r | r
      · exact .inl (.inr (.inl r))
      · exact .inr (Nat.le_of_eq r.symm)
    · exact .inl (.inr (.inr hk))⟩
  refine ⟨⟨hc, ?_, ?_, ?_, ?_, ?_, ?_, ?_, h.ld, h.ll, h.here, ?_, ?_, ?_⟩, hnxt, ht2⟩
  · rw [List.length_append]
    have e : rowsC (rs ++ [x]) = rowsC rs ++ (rowA x).toList := by simp [rowsC]
    rw [e]
    exact ownk_only hown hvP ho
  · intro r hr
    have key : ∀ r : RowM, (RdW w r.A r.ws ∧ Out r.A r.ws.length s.ms ∧ r.at_ ≤ 16384 ∧ r.ws.length ≤ r.c ∧ r.ws.length ≤ 100000) → (RdW w2 r.A r.ws ∧ Out r.A r.ws.length ({ s with rv := v' } : PS).ms ∧ r.at_ ≤ 16384 ∧ r.ws.length ≤ r.c ∧ r.ws.length ≤ 100000) := fun r ⟨q1, q2, q3⟩ => ⟨q1.turn ht2 q2, q2.next q1.lt hnxt.2, q3⟩
    rcases List.mem_append.1 hr with hr | hr
    · exact key r (h.rok r hr)
    · rw [List.mem_singleton.1 hr]; exact key x hx
  · show p.rows ++ [x.v] = (rs ++ [x]).map RowM.v
    rw [List.map_append, h.prow]
    rfl
  · have r1 : w1.ownsRow B 50 2 s.nv p.names.length (nmsC p.names) := ownk_turn (ms := s.rv.ownBlock.toList) h.names (Turn.of_grown hg (fun k hk => by simp [hk])) (fun g hg q => p9 g (by simpa using q) hg)
    exact ownk_only r1 (fun j hj => Ne.symm (p8 j hj).1) ho
  · have m1 : MapIs w1 s.gM p.vals := h.map.turn (ms := s.rv.ownBlock.toList) (Turn.of_grown hg (fun k hk => by simp [hk])) (fun q => (p7 _ (by simpa using q)).2.1 rfl)
    exact m1.turn (Turn.of_only (ms := [s.gP]) ho (List.mem_singleton.2 rfl)) (fun q => p1 (List.mem_singleton.1 q).symm)
  · exact (ho.block _ (Ne.symm p2)).trans ((hne _ s.mem_D (fun g hg => (p7 g hg).2.2.1)).trans h.data)
  · exact (ho.block _ (Ne.symm p3)).trans ((hne _ s.mem_L (fun g hg => (p7 g hg).2.2.2)).trans h.laid)
  · have hn := h.nd
    unfold PS.ms at hn ⊢
    simp only [List.cons_append, List.nil_append, List.nodup_cons, List.mem_cons, not_or, List.mem_append, List.nodup_append] at hn ⊢
    obtain ⟨⟨a1, a2, a3, _, a5⟩, ⟨b2, b3, _, b5⟩, ⟨c3, _, c5⟩, ⟨_, d5⟩, _, e1, _⟩ := hn
    have hv2 : ∀ k, k ∈ s.ms → (∀ g, s.rv.ownBlock = some g → k ≠ g) → k ∉ v'.ownBlock.toList := fun k hk hn q => by
      rcases hx2 k (by simpa using q) with r | r
      · exact hn k r rfl
      · have := h.lt k hk; omega
    refine ⟨⟨a1, a2, a3, hv2 _ s.mem_P (fun g hg => (p7 g hg).1), a5⟩, ⟨b2, b3, hv2 _ s.mem_M (fun g hg => (p7 g hg).2.1), b5⟩, ⟨c3, hv2 _ s.mem_D (fun g hg => (p7 g hg).2.2.1), c5⟩, ⟨hv2 _ s.mem_L (fun g hg => (p7 g hg).2.2.2), d5⟩, ?_, e1, ?_⟩
    · cases v'.ownBlock <;> simp
    · intro a ha b hb e
      have ha2 : v'.ownBlock = some a := by simpa using ha
      have hb2 : s.nv.ownBlock = some b := by simpa using hb
      subst e
      rcases hx2 a ha2 with r | r
      · exact p9 a r hb2
      · have := h.lt a (s.mem_nv hb2); omega
  · intro k hk
    rcases hnxt.2 k hk with q | q
    · exact h.ge k q
    · omega
  · intro k hk
    unfold PS.ms at hk
    simp only [List.mem_append, Option.mem_toList] at hk
    rcases hk with hk | hk | hk
    · exact Nat.lt_of_lt_of_le (h.lt k (by unfold PS.ms; simp only [List.mem_append]; exact .inl hk)) ht2.size
    · rw [ho.size]; exact (own_block hown k hk).2
    · exact Nat.lt_of_lt_of_le (h.lt k (s.mem_nv hk)) ht2.size
end Go.Proofs.YtaclidjhgpkmpaaDoor.My
