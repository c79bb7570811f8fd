/- The law of Order: words for its walk. -/
import Derived.Test.YtpljolhcikbejaaFreelTail
import Derived.StillTailTactics
set_option linter.unusedSimpArgs false
set_option linter.unusedVariables false
namespace Go.Proofs.Ytpljolhcikbejaa.My
open Go.RowKit
section
variable {P : Program} {ops : Array Oper} {o : Oper} {a : Act} {w : World} {Q : Exit → Act → World → Prop} {rest : List Oper}
/-- The list without its first one. -/
theorem slTail (hw : Region.wanted o (yielded ops a.tmps) = true) (t : TypeId) (x lo : Operand) (ho : o.op = .slice t x (some lo) none none) (ht : P.underlying t = some (.slice 3)) (hs : (P.info? 3).map (·.size) = some 1) (B : Nat) (A : Option Addr) (n cap : Nat) (xs : List Int) (hx : a.eval x = .slice A n cap) (k : IntKind) (hy : a.eval lo = .int k 1) (hT : TailI w B A n cap xs) (hn : 0 < n)
    (hk : ∀ (A' : Option Addr) (cap' : Nat), TailI w B A' (n - 1) cap' xs.tail → (∀ Ar nr, Apart Ar nr A cap → Apart Ar nr A' cap') → wpList P ops Q rest (a.put o.dst (.slice A' (n - 1) cap')) w) : wpList P ops Q (o :: rest) a w :=
  wpList_step fun K hK => by
    rw [if_pos hw]
    unfold Oper.wp execOp
    have e2 : P.elem t = 3 := by simp [Program.elem, ht]
    have ht2 : P.underlying t = some (.slice (P.elem t)) := by rw [e2]; exact ht
    have hr := run_slice_l (P := P) (w := w) t A n cap ht2 k 1 (by omega) (by omega)
    have hr0 := run_sliceAt_slice (P := P) (w := w) t (.slice A n cap) (some (.int k 1)) none none ht2
    have hz : (sizeOf (P.elem t)).run P w = .ok 1 w := by
      rw [e2]
      cases hq : P.info? 3 with
      | none => simp [hq] at hs
      | some q =>
        have : q.size = 1 := by simpa [hq] using hs
        simp [sizeOf, typeInfo, hq, this]
    rw [hr, hz, Result.andThen_ok] at hr0
    rcases hT.2 with ⟨h1, _⟩ | ⟨g, off, cur, rfl, hg, hh, hnc, hcm, hsz, hc⟩
    · omega
    · have hlx := hT.1
      have hcell : ∀ j, j < n - 1 → cur[off + 1 + j]? = some (.int .i64 (el xs.tail j)) := fun j hj => by
        have := hc (j + 1) (by omega)
        rw [show off + 1 + j = off + (j + 1) by omega, this]
        simp [el]
      by_cases hcap : cap = 1
      · have hv : sliced (some ⟨g, off, none⟩) (1 : Int).toNat n cap 1 = .slice (some ⟨g, off, none⟩) (n - 1) (cap - 1) := by
          simp [sliced, hcap]
        rw [hv] at hr0
        simp only [ho, hx, hy, Option.map_some, Option.map_none, Sem.run_bind, Sem.run_pure, hr0, Result.andThen_ok]
        exact hK _ _ (hk _ _ ⟨by simp [hlx], .inl ⟨by omega, by omega⟩⟩ (fun Ar nr h a1 b1 ha hn0 hb hc0 => by omega))
      · have hv : sliced (some ⟨g, off, none⟩) (1 : Int).toNat n cap 1 = .slice (some ⟨g, off + 1, none⟩) (n - 1) (cap - 1) := by
          have : ¬ cap = 1 := hcap
          simp [sliced, this, Addr.add]
        rw [hv] at hr0
        simp only [ho, hx, hy, Option.map_some, Option.map_none, Sem.run_bind, Sem.run_pure, hr0, Result.andThen_ok]
        exact hK _ _ (hk _ _ ⟨by simp [hlx], .inr ⟨g, off + 1, cur, rfl, hg, hh, by omega, by omega, by omega, hcell⟩⟩ (fun Ar nr h a1 b1 ha hn0 hb hc0 => by
          injection hb with hb
          subst hb
          exact h a1 ⟨g, off, none⟩ ha hn0 rfl (by omega)))
end
theorem TailI.weak {w : World} {B B' : Nat} {A : Option Addr} {n cap : Nat} {xs : List Int} (h : TailI w B A n cap xs) (hB : B' ≤ B) : TailI w B' A n cap xs := by
  refine ⟨h.1, ?_⟩
  rcases h.2 with h1 | ⟨g, off, cur, h1, h2, h3⟩
  · exact .inl h1
  · exact .inr ⟨g, off, cur, h1, by omega, h3⟩
theorem TailI.lt {w : World} {B : Nat} {A : Option Addr} {n cap : Nat} {xs : List Int} (h : TailI w B A n cap xs) : ∀ b, A = some b → 0 < cap → b.block < w.heap.size := by
  intro b hb hc
  rcases h.2 with ⟨_, h1⟩ | ⟨g, off, cur, h1, h2, h3, _⟩
  · omega
  · rw [h1] at hb
    injection hb with hb
    subst hb
    exact (Array.getElem?_eq_some_iff.1 h3).1
theorem TailI.head {w : World} {B g off n cap : Nat} {xs : List Int} (h : TailI w B (some ⟨g, off, none⟩) n cap xs) (hn : 0 < n) : w.cell? ⟨g, off + 0, none⟩ = some (.int .i64 (el xs 0)) := by
  obtain ⟨b, o, hA, hc⟩ := h.rd.2 hn
  injection hA with hA
  injection hA with h1 h2
  subst h1 h2
  exact hc 0 hn
theorem apart_new {w : World} {A : Option Addr} {n : Nat} {xs : List Int} {L : Option Addr} {cap : Nat} (hr : RdA .i64 w A n xs) (h : ∀ a, L = some a → w.heap.size ≤ a.block) : Apart A n L cap := fun a b ha hn hb _ => by
  have := hr.lt a ha hn
  have := h b hb
  omega
theorem apart_give {w : World} {B : Nat} {A A2 L : Option Addr} {n nl cap : Nat} {ys : List Int} (h : Apart A n L cap) (hf : A2 = A ∨ Fresh w.heap.size A2) (hT : TailI w B L nl cap ys) : Apart A2 n L cap := fun a b ha hn hb hc => by
  rcases hf with rfl | hf
  · exact h a b ha hn hb hc
  · have h1 := hf a ha
    have h2 := hT.lt b hb hc
    omega
theorem ne_give {w : World} {A A2 : Option Addr} {n k : Nat} (h : ∀ a, A = some a → 0 < n → a.block ≠ k) (hf : A2 = A ∨ Fresh w.heap.size A2) (hk : k < w.heap.size) : ∀ a, A2 = some a → 0 < n → a.block ≠ k := fun a ha hn => by
  rcases hf with rfl | hf
  · exact h a ha hn
  · have h1 := hf a ha
    omega
theorem cut_zero (M : Nat) : cut 0 M = 0 := by unfold cut; split <;> (try split) <;> omega
theorem new_full (q : Int) (M : Nat) (X : List Int) (w : World) (hM : cut q 96 = M) (hX : newL M 0 = X) : Calls Try.prog 14 #[.int .i64 q, .int .i64 0] w fun e w' => NewFree w w' M X 0 (M : Int) e := by
  have h := new_any q 0 M 0 w hM (cut_zero M)
  rw [hX, show ((M : Int) - ((0 : Nat) : Int)) = (M : Int) by omega] at h
  exact h
theorem list_own (A : Option Addr) (n c : Nat) (h N : Int) (xs : List Int) (w : World) (hr : RdA .i64 w A n xs) (hnm : n ≤ 9223372036854775807) : Calls Try.prog 15 #[.agg #[.slice A n c, .int .i64 h, .int .i64 N]] w fun e w' => (∃ v, e = .returned v ∧ OwnI w' w.heap.size v (ringL xs n h N)) ∧ Below w.heap.size w w' := by
  cases hs : soundB n h N with
  | false =>
    have e : ringL xs n h N = [] := by unfold ringL; rw [hs]; rfl
    rw [e]
    exact list_no A n c h N w hnm hs
  | true =>
    by_cases hn : n = 0
    · obtain ⟨a1, a2, a3, a4, a5⟩ := sound_iff.1 hs
      have e1 : h = 0 := by omega
      have e2 : N = 0 := by omega
      subst hn e1 e2
      rw [ring_zero]
      exact list_zero A c w
    · obtain ⟨b, off, rfl, hc⟩ := hr.2 (by omega)
      exact list_yes b off n c h N xs w hc (by omega) hs
theorem order_long (q : Int) (A1 : Option Addr) (m c1 : Nat) (w : World) (hm : 100 < m) : Calls Try.prog 4 #[.int .i64 q, .slice A1 m c1] w fun e w' => e = .returned (.bool true) ∧ Below w.heap.size w w' := by
  have HB := startB w
  go_enter Try.func4, Try.ntmps4
  go_wp2_with (go_at_call 6; refine (awake_any _).mono ?_; rintro e w1 ⟨rfl, hb⟩; replace HB := keepB HB hb; clear hb)
  go_ret
  exact ⟨rfl, HB.out.1⟩
end Go.Proofs.Ytpljolhcikbejaa.My
