/- Words: a slice of numbers that the call makes, cut at its head, appended to. -/
import Derived.Test.YtpljolhcikbejaaFreelRing
import Derived.ArgAppend
import Derived.OwnWalk
set_option linter.unusedVariables false
set_option linter.unusedSimpArgs false
namespace Go.Proofs.Ytpljolhcikbejaa.My
open Go.RowKit
/-- A slice of n numbers, room for cap, in memory of the call's own from block B on. -/
def TailI (w : World) (B : Nat) (A : Option Addr) (n cap : Nat) (xs : List Int) : Prop :=
  xs.length = n ∧ ((n = 0 ∧ cap = 0) ∨ ∃ g off cur, A = some ⟨g, off, none⟩ ∧ B ≤ g ∧ w.heap[g]? = some (.cells cur 3 (0, 0)) ∧ n ≤ cap ∧ cap ≤ maxLen ∧ off + cap ≤ cur.size ∧ ∀ j, j < n → cur[off + j]? = some (.int .i64 (el xs j)))
theorem TailI.rd {w : World} {B : Nat} {A : Option Addr} {n cap : Nat} {xs : List Int} (h : TailI w B A n cap xs) : RdA .i64 w A n xs := by
  refine ⟨h.1, fun hn => ?_⟩
  rcases h.2 with ⟨h1, _⟩ | ⟨g, off, cur, h1, _, h3, _, _, _, h7⟩
  · omega
  · exact ⟨g, off, h1, fun j hj => by rw [cell_of_row w g (off + j) _ _ _ h3]; exact h7 j hj⟩
theorem TailI.below {w w' : World} {B : Nat} {A : Option Addr} {n cap : Nat} {xs : List Int} (h : TailI w B A n cap xs) (hb : Below w.heap.size w w') : TailI w' B A n cap xs := by
  refine ⟨h.1, ?_⟩
  rcases h.2 with h1 | ⟨g, off, cur, h1, h2, h3, h4⟩
  · exact .inl h1
  · exact .inr ⟨g, off, cur, h1, h2, (hb.block g (Array.getElem?_eq_some_iff.1 h3).1).trans h3, h4⟩
theorem TailI.only {w w' : World} {B k : Nat} {A : Option Addr} {n cap : Nat} {xs : List Int} {c : Array Value} {t : TypeId} {fr : Nat × Nat} (h : TailI w B A n cap xs) (ho : Only k w w') (hk : w'.heap[k]? = some (.cells c t fr)) (hw : k < B) : TailI w' B A n cap xs := by
  refine ⟨h.1, ?_⟩
  rcases h.2 with h1 | ⟨g, off, cur, h1, h2, h3, h4⟩
  · exact .inl h1
  · exact .inr ⟨g, off, cur, h1, h2, (ho.block g (by omega)).trans h3, h4⟩
theorem TailI.onlyT {w w' : World} {B k : Nat} {A : Option Addr} {n cap : Nat} {xs : List Int} {c : Array Value} {t : TypeId} {fr : Nat × Nat} (h : TailI w B A n cap xs) (ho : Only k w w') (hk : w.heap[k]? = some (.cells c t fr)) (ht : t ≠ 3) : TailI w' B A n cap xs := by
  refine ⟨h.1, ?_⟩
  rcases h.2 with h1 | ⟨g, off, cur, h1, h2, h3, h4⟩
  · exact .inl h1
  · refine .inr ⟨g, off, cur, h1, h2, (ho.block g ?_).trans h3, h4⟩
    rintro rfl
    rw [h3] at hk
    simp only [Option.some.injEq, Obj.cells.injEq] at hk
    exact ht hk.2.1.symm
theorem TailI.of_own {w : World} {B : Nat} {v : Value} {n : Nat} {xs : List Int} (h : w.ownsRow B 3 1 v n (xs.map (Value.int .i64))) : ∃ A cap, v = .slice A n cap ∧ TailI w B A n cap xs ∧ (∀ a, A = some a → B ≤ a.block) := by
  have hl : xs.length = n := by have := h.1; simpa using this
  rcases h.2 with ⟨rfl, hn⟩ | ⟨g, cap, cur, rfl, hg, hh, hnc, hcm, hsz, htk⟩
  · subst hn
    exact ⟨none, 0, rfl, ⟨hl, .inl ⟨rfl, rfl⟩⟩, fun a ha => by cases ha⟩
  · refine ⟨_, cap, rfl, ⟨hl, .inr ⟨g, 0, cur, rfl, hg, hh, hnc, hcm, by omega, fun j hj => ?_⟩⟩, fun a ha => by injection ha with ha; subst ha; exact hg⟩
    have h1 : (cur.toList.take (n * 1))[j]? = cur.toList[j]? := List.getElem?_take_of_lt (by omega)
    rw [htk] at h1
    rw [Nat.zero_add, ← Array.getElem?_toList, ← h1]
    simp [el_at (show j < xs.length by omega)]
/-- The ring's memory and the list's lie apart. -/
def Apart (A : Option Addr) (n : Nat) (L : Option Addr) (cap : Nat) : Prop := ∀ a b, A = some a → 0 < n → L = some b → 0 < cap → a.block ≠ b.block
section
variable {P : Program} {ops : Array Oper} {o : Oper} {a : Act} {w : World} {Q : Exit → Act → World → Prop} {rest : List Oper}
theorem appTail (hgd : o.guard = none) (s x : Operand) (t : TypeId) (ho : o.op = .call { callee := .builtin .append, args := #[s, x], argTypes := #[t, t] })
    (ht : P.underlying t = some (.slice 3)) (hinfo : (P.info? 3).map (fun i => (i.zero, i.size, i.bytes)) = some (some (.int .i64 0), 1, 8))
    (B : Nat) (A : Option Addr) (n cap : Nat) (xs : List Int) (hs : a.eval s = .slice A n cap) (hT : TailI w B A n cap xs) (q : Int) (c : Nat)
    (hx : a.eval x = .slice (some ⟨w.heap.size, 0, none⟩) 1 c) (hn : n ≤ 1000000) (hB : B ≤ w.heap.size)
    (Ar : Option Addr) (nr : Nat) (xr : List Int) (hr : RdA .i64 w Ar nr xr) (hap : Apart Ar nr A cap)
    (h : ∀ (A' : Option Addr) (cap' : Nat) (w2 : World), TailI w2 B A' (n + 1) cap' (xs ++ [q]) → RdA .i64 w2 Ar nr xr → Apart Ar nr A' cap' → Below B w w2 → wpList P ops Q rest (a.put o.dst (.slice A' (n + 1) cap')) w2) :
    wpList P ops Q (o :: rest) a (w.alloc (.cells #[.int .i64 q] 3)) := by
  obtain ⟨i0, hi, hzz⟩ := Option.map_eq_some_iff.1 hinfo
  simp only [Prod.mk.injEq] at hzz
  obtain ⟨hz0, hz1, hz2⟩ := hzz
  have hB2 : B ≤ (w.alloc (.cells #[.int .i64 q] 3)).heap.size := by simp; omega
  have c1 : ∀ j u, [Value.int .i64 q][j]? = some u → (w.alloc (.cells #[.int .i64 q] 3)).cell? ((⟨w.heap.size, 0, none⟩ : Addr).add j) = some u := by
    intro j u hj
    match j, hj with
    | 0, hj =>
      have : Value.int .i64 q = u := by simpa using hj
      subst this
      have ha : (⟨w.heap.size, 0, none⟩ : Addr).add 0 = ⟨w.heap.size, 0, none⟩ := by simp [Addr.add]
      rw [ha, cell_of_row _ w.heap.size 0 _ _ _ (heap_alloc_new w _)]
      rfl
  have c2 : ∀ u ∈ [Value.int .i64 q], u.oneCell' = true := by
    intro u hu
    have : u = .int .i64 q := by simpa using hu
    rw [this]; rfl
  have hlx : xs.length = n := hT.1
  have hra := hr.below ((Below.refl w.heap.size w).alloc (Nat.le_refl _) (.cells #[.int .i64 q] 3))
  have grow : ∀ (v' : Value) (w2 : World), w2.ownsRow (w.alloc (.cells #[.int .i64 q] 3)).heap.size 3 1 v' (n + 1) (xs.map (Value.int .i64) ++ [.int .i64 q]) → (w.alloc (.cells #[.int .i64 q] 3)).grownBy w2 none → wpList P ops Q rest (a.put o.dst v') w2 := by
    intro v' w2 h1 h2
    rw [show xs.map (Value.int .i64) ++ [.int .i64 q] = (xs ++ [q]).map (Value.int .i64) by rw [List.map_append]; rfl] at h1
    obtain ⟨A', cap', rfl, h3, h4⟩ := TailI.of_own h1
    have hbl : Below (w.alloc (.cells #[.int .i64 q] 3)).heap.size (w.alloc (.cells #[.int .i64 q] 3)) w2 := (Below.refl _ _).grown h2 (Nat.le_refl _) (by intro k hk; cases hk)
    refine h A' cap' w2 ?_ (hra.below hbl) ?_ (((Below.refl B w).alloc hB _).grown h2 hB2 (by intro k hk; cases hk))
    · refine ⟨h3.1, ?_⟩
      rcases h3.2 with q1 | ⟨g, off, cur, q1, q2, q3⟩
      · exact .inl q1
      · exact .inr ⟨g, off, cur, q1, by omega, q3⟩
    · intro a1 b1 ha hn0 hb hc
      have := hra.lt a1 ha hn0
      have := h4 b1 hb
      omega
  rcases hT.2 with ⟨rfl, rfl⟩ | ⟨g, off, cur, rfl, hg, hh, hnc, hcm, hsz, hcells⟩
  · have hxs : xs = [] := List.length_eq_zero_iff.1 hlx
    subst hxs
    exact wpList_append_grows _ hgd s x t ho 3 i0 (.int .i64 0) 1 8 ht hi hz0 hz1 hz2 rfl (by omega) A 0 0 [] hs (fun _ => ⟨rfl, rfl⟩) rfl (fun b hb j u hj => by cases hj) ⟨w.heap.size, 0, none⟩ 1 c [.int .i64 q] hx rfl c1 c2 (by omega) (by unfold maxLen; omega) (by omega) grow
  · have hgl : g < w.heap.size := (Array.getElem?_eq_some_iff.1 hh).1
    have hh2 : (w.alloc (.cells #[.int .i64 q] 3)).heap[g]? = some (.cells cur 3 (0, 0)) := (keepAa (Lib.hid hh) _).out
    refine wpList_append_arg _ hgd s x t ho 3 i0 (.int .i64 0) 1 8 ht hi hz0 hz1 hz2 rfl (by omega) g off n cap (xs.map (Value.int .i64)) hs (by simp [hlx]) ?_ ⟨w.heap.size, 0, none⟩ 1 c [.int .i64 q] hx rfl c1 c2 ?_ (by unfold maxLen; omega) (by omega) ?_ ?_
    · intro j u hj
      have hjn : j < n := by
        have := (List.getElem?_eq_some_iff.1 hj).1
        simp at this; omega
      rw [cell_of_row _ g (off + j) _ _ _ hh2, hcells j hjn, ← hj]
      simp [el_at (show j < xs.length by omega)]
    · intro hroom j hj
      have hj0 : j = 0 := by simp at hj; omega
      subst hj0
      refine ⟨?_, frozen_of_row _ g _ cur _ hh2⟩
      rw [cell_of_row _ g _ _ _ _ hh2]
      have : off + n * 1 + 0 < cur.size := by omega
      rw [Array.getElem?_eq_getElem this]; rfl
    · intro hroom
      have e : (w.alloc (.cells #[.int .i64 q] 3)).setCells g (off + n * 1) [.int .i64 q] = (w.alloc (.cells #[.int .i64 q] 3)).setRow g (cur.setIfInBounds (off + n * 1) (.int .i64 q)) := by
        rw [← setCell_eq_setRow _ g (off + n * 1) cur _ _ _ hh2]; rfl
      rw [e]
      have hgS : ((w.alloc (.cells #[.int .i64 q] 3)).setRow g (cur.setIfInBounds (off + n * 1) (.int .i64 q))).heap[g]? = some (.cells (cur.setIfInBounds (off + n * 1) (.int .i64 q)) 3 (0, 0)) := setRow_heap _ _ _ _ _ _ hh2
      have ho2 := only_setRow (w.alloc (.cells #[.int .i64 q] 3)) g (cur.setIfInBounds (off + n * 1) (.int .i64 q))
      refine h (some ⟨g, off, none⟩) cap _ ⟨by rw [List.length_append, hlx]; rfl, .inr ⟨g, off, _, rfl, hg, hgS, hroom, hcm, by rw [Array.size_setIfInBounds]; exact hsz, fun j hj => ?_⟩⟩ ?_ ?_ ?_
      · by_cases hjn : j = n
        · subst hjn
          rw [Nat.mul_one, Array.getElem?_setIfInBounds_self_of_lt (by omega)]
          simp [el, List.getElem?_append_right (show xs.length ≤ j by omega), hlx]
        · rw [Nat.mul_one, Array.getElem?_setIfInBounds_ne (by omega), hcells j (by omega)]
          simp [el, List.getElem?_append_left (show j < xs.length by omega)]
      · exact hra.only2 ho2 (fun a1 ha hn0 => hap a1 _ ha hn0 rfl (by omega))
      · intro a1 b1 ha hn0 hb hc
        exact hap a1 b1 ha hn0 hb hc
      · exact ((Below.refl B w).alloc hB _).trans ⟨ho2.os, ho2.tape, ho2.output, by rw [ho2.size]; exact Nat.le_refl _, fun k hk => ho2.block k (by omega)⟩
    · intro _ v' w2 h1 h2
      exact grow v' w2 h1 h2
end
end Go.Proofs.Ytpljolhcikbejaa.My
