/- Words of this session: a slice that the call makes, one element appended, the world left abstract; what a rune of several bytes steps over. -/
import Derived.Test.YtaclidjhgpkmpaaDoorByteWords
set_option linter.unusedVariables false
namespace Go.Proofs.YtaclidjhgpkmpaaDoor.My
open Go.RowKit
section
variable {P : Program} {ops : Array Oper} {o : Oper} {a : Act} {w : World} {Q : Exit → Act → World → Prop} {rest : List Oper}
theorem appOne (hgd : o.guard = none) (s x : Operand) (t e : TypeId) (z : Value) (bytes : Nat) (ho : o.op = .call { callee := .builtin .append, args := #[s, x], argTypes := #[t, t] })
    (ht : P.underlying t = some (.slice e)) (hinfo : (P.info? e).map (fun i => (i.zero, i.size, i.bytes)) = some (some z, 1, bytes)) (hzc : z.cells.size = 1)
    (B : Nat) (v : Value) (n : Nat) (xs : List Value) (hs : a.eval s = v) (hown : w.ownsRow B e 1 v n xs) (u : Value) (hu : u.oneCell' = true) {tt : TypeId} (c : Nat)
    (hx : a.eval x = .slice (some ⟨w.heap.size, 0, none⟩) 1 c) (h63 : n + 1 ≤ maxLen) (hb : (n + 1) * bytes ≤ 140737488355328) (hB : B ≤ w.heap.size)
    (h : ∀ (v' : Value) (w2 : World), w2.ownsRow B e 1 v' (n + 1) (xs ++ [u]) → Below B w w2 → wpList P ops Q rest (a.put o.dst v') w2) :
    wpList P ops Q (o :: rest) a (w.alloc (.cells #[u] tt)) := by
  obtain ⟨i0, hi, hzz⟩ := Option.map_eq_some_iff.1 hinfo
  simp only [Prod.mk.injEq] at hzz
  obtain ⟨hz0, hz1, hz2⟩ := hzz
  have hB2 : B ≤ (w.alloc (.cells #[u] tt)).heap.size := by simp; omega
  refine wpList_append_own _ hgd s x t ho B e i0 z 1 bytes ht hi hz0 hz1 hz2 hzc (by omega) v n xs hs (hown.alloc _) ⟨w.heap.size, 0, none⟩ 1 c [u] hx rfl ?_ ?_ h63 hb hB2 ?_
  · intro j q hj
    match j, hj with
    | 0, hj =>
      have : u = q := by simpa using hj
      subst this
      have ha : (⟨w.heap.size, 0, none⟩ : Addr).add 0 = ⟨w.heap.size, 0, none⟩ := by simp [Addr.add]
      rw [ha, cell_of_row _ w.heap.size 0 _ _ _ (heap_alloc_new w _)]
      rfl
  · intro q hq
    have : q = u := by simpa using hq
    rw [this]; exact hu
  · intro v' w2 h1 h2 _
    refine h v' w2 h1 (((Below.refl B w).alloc hB _).grown h2 hB2 ?_)
    intro k hk
    rcases hown.2 with ⟨rfl, _⟩ | ⟨g, cap, cur, rfl, hg, _⟩
    · cases hk
    · simp only [Value.ownBlock, Option.some.injEq] at hk
      omega
end
theorem keepBg {B B' : Nat} {w0 w w' : World} (h : Hid (Below B w0 w ∧ B ≤ w.heap.size)) (hB : B ≤ B') (hb : Below B' w w') : Hid (Below B w0 w' ∧ B ≤ w'.heap.size) :=
  ⟨h.out.1.trans ⟨hb.os, hb.tape, hb.output, hb.size, fun i hi => hb.block i (by omega)⟩, Nat.le_trans h.out.2 hb.size⟩
theorem keepAg {B g : Nat} {w w' : World} {o : Obj} (h : Hid (w.heap[g]? = some o)) (hg : g < B) (hb : Below B w w') : Hid (w'.heap[g]? = some o) := (hb.block g hg).trans h.out
theorem own_nil (w : World) (B : Nat) (e : TypeId) : w.ownsRow B e 1 (.slice none 0 0) 0 [] := ⟨rfl, .inl ⟨rfl, rfl⟩⟩
theorem own_only {w w' : World} {B e g n : Nat} {v : Value} {xs : List Value} (h : w.ownsRow B e 1 v n xs) (hg : g < B) (ho : Only g w w') : w'.ownsRow B e 1 v n xs := by
  refine ⟨h.1, ?_⟩
  rcases h.2 with h | ⟨k, cap, cur, h1, h2, h3, h4⟩
  · exact .inl h
  · exact .inr ⟨k, cap, cur, h1, h2, (ho.block k (by omega)).trans h3, h4⟩
theorem own_below {w w' : World} {B e n : Nat} {v : Value} {xs : List Value} (h : w.ownsRow B e 1 v n xs) (hb : Below w.heap.size w w') : w'.ownsRow B e 1 v n xs := by
  refine ⟨h.1, ?_⟩
  rcases h.2 with h | ⟨k, cap, cur, h1, h2, h3, h4⟩
  · exact .inl h
  · exact .inr ⟨k, cap, cur, h1, h2, (hb.block k (Array.getElem?_eq_some_iff.1 h3).1).trans h3, h4⟩
theorem own_weak {w : World} {B B' e n : Nat} {v : Value} {xs : List Value} (h : w.ownsRow B e 1 v n xs) (hB : B' ≤ B) : w.ownsRow B' e 1 v n xs := by
  refine ⟨h.1, ?_⟩
  rcases h.2 with h | ⟨k, cap, cur, h1, h2, h3⟩
  · exact .inl h
  · exact .inr ⟨k, cap, cur, h1, by omega, h3⟩
theorem own_val {w : World} {B e n : Nat} {v : Value} {xs : List Value} (h : w.ownsRow B e 1 v n xs) : ∃ A c, v = .slice A n c := by
  rcases h.2 with ⟨h, h2⟩ | ⟨k, cap, cur, h1, h2⟩
  · exact ⟨none, 0, by rw [h, h2]⟩
  · exact ⟨_, _, h1⟩
/-- A rune that begins with a high byte steps over high bytes alone, and not beyond the end. -/
theorem decode_over {s : ByteArray} {pos r d : Nat} (h : pos < s.size) (h1 : 128 ≤ bAt s pos) (hd : Utf8.decode s pos = (r, d)) : pos + d ≤ s.size ∧ ∀ k, k < d → 128 ≤ bAt s (pos + k) := by
  have hg : ∀ k, pos + k < s.size → (s.get! (pos + k)).toNat = bAt s (pos + k) := fun k hk => by
    rw [← bAt_eq hk]
    congr 1
    show s.get! (pos + k) = _
    simp [ByteArray.get!, getElem!_pos, hk]
    rfl
  have h0 := hg 0 h
  simp only [Nat.add_zero] at h0
  have key : ∀ m, (pos + m ≤ s.size ∧ ∀ k, k < m → 128 ≤ bAt s (pos + k)) → (∃ r', (r', m) = (r, d)) → pos + d ≤ s.size ∧ ∀ k, k < d → 128 ≤ bAt s (pos + k) := fun m hm ⟨r', he⟩ => by
    injection he with _ he
    subst he
    exact hm
  have one : pos + 1 ≤ s.size ∧ ∀ k, k < 1 → 128 ≤ bAt s (pos + k) := ⟨h, fun k hk => by
    have : k = 0 := by omega
    subst this
    exact h1⟩
  have cont : ∀ k, (decide (pos + k < s.size) && (s.get! (pos + k)).toNat / 64 == 2) = true → pos + k < s.size ∧ 128 ≤ bAt s (pos + k) := fun k hk => by
    simp only [Bool.and_eq_true, decide_eq_true_eq, beq_iff_eq] at hk
    have := hg k hk.1
    exact ⟨hk.1, by omega⟩
  have more : ∀ m, 1 ≤ m → (pos + m ≤ s.size ∧ ∀ k, k < m → 128 ≤ bAt s (pos + k)) → (decide (pos + m < s.size) && (s.get! (pos + m)).toNat / 64 == 2) = true → pos + (m + 1) ≤ s.size ∧ ∀ k, k < m + 1 → 128 ≤ bAt s (pos + k) := fun m _ hm hc => by
    obtain ⟨c1, c2⟩ := cont m hc
    refine ⟨by omega, fun k hk => ?_⟩
    by_cases q : k < m
    · exact hm.2 k q
    · rw [show k = m by omega]; exact c2
  clear hg h0 key cont
  simp only [Utf8.decode] at hd
  repeat' split at hd
  all_goals obtain ⟨rfl, rfl⟩ := Prod.mk.inj hd
  all_goals first
    | exact one
    | (rename_i q _; simp only [Bool.and_eq_true] at q; exact more 1 (by decide) one (by simpa using q.2))
    | (rename_i q _; simp only [Bool.and_eq_true] at q; exact more 2 (by decide) (more 1 (by decide) one (by simpa using q.1.2)) (by simpa using q.2))
    | (rename_i q _; simp only [Bool.and_eq_true] at q; exact more 3 (by decide) (more 2 (by decide) (more 1 (by decide) one (by simpa using q.1.1.2)) (by simpa using q.1.2)) (by simpa using q.2))
end Go.Proofs.YtaclidjhgpkmpaaDoor.My
