/- Words of this session: a ring among the arguments: what it looks like, and its numbers. -/
import Derived.Test.YtpljolhcikbejaaOpenWords
import Derived.Test.YtpljolhcikbejaaFreelAwake
import Derived.ChangeSlices
import Derived.OpenShut
import Derived.Deep.Strs
namespace Go.Proofs.Ytpljolhcikbejaa.My
open Go.ChangeShapes Go.WideShapes Go.ChangeAt Go.RowKit
theorem cell_slice {P : Program} {w : World} {r : Reach} {base : Nat} {u e : TypeId} {v : Value} (hu : P.underlying u = some (.slice e)) (h : Cell.okWide P w r base u v) : ∃ a n c, v = .slice a n c := by
  unfold Cell.okWide at h
  rw [hu] at h
  cases v <;> simp_all [Cell.ok]
theorem cells_rd {P : Program} {w : World} {H : Type} {enc : TypeId × Value → H} {base : Nat} {spare : Nat → Bool} {held : Bool} {t e : TypeId} {fuel n c : Nat} {a : Option Addr} {x : DataW H × List MemPlace} (ht : P.underlying t = some (.slice e)) (he : P.underlying e = some (.int .i64)) (hc : P.cellsOf e = 1)
    (h : DataW.trod enc P w base spare held fuel t [.slice a n c] = some x) : ∃ xs, RdA .i64 w a n xs ∧ n ≤ maxLen ∧ ∀ x ∈ xs, (Lit.int .i64 x).wf = true := by
  rcases open_ints ht he hc h with ⟨hcs, _⟩ | ⟨ad, len, cap, zs, hcs, _, hl, hm, hz, _, hcell, hwf⟩
  · simp only [List.cons.injEq, Value.slice.injEq, and_true] at hcs
    obtain ⟨rfl, rfl, rfl⟩ := hcs
    exact ⟨[], ⟨rfl, fun h => absurd h (Nat.lt_irrefl 0)⟩, Nat.zero_le _, fun x hx => by cases hx⟩
  · simp only [List.cons.injEq, Value.slice.injEq, and_true] at hcs
    obtain ⟨rfl, rfl, rfl⟩ := hcs
    have hle : n ≤ zs.length := by rw [hz]; split <;> omega
    refine ⟨zs.take n, ⟨by rw [List.length_take]; omega, fun hn => ?_⟩, by omega, fun x hx => hwf x (List.mem_of_mem_take hx)⟩
    obtain ⟨b, off, rfl, hc2⟩ := ints_at hcell (by omega)
    refine ⟨b, off, rfl, fun j hj => ?_⟩
    rw [hc2 j (by omega)]
    simp only [el, List.getElem?_take_of_lt hj]
    rfl
theorem open_free {P : Program} {w : World} {H : Type} {enc : TypeId × Value → H} {r : Reach} {b0 base : Nat} {spare : Nat → Bool} {held : Bool} {t s e u : TypeId} {f0 f1 f2 : Field} {v : Value} {d : DataW H} {ps : List MemPlace} (ht : P.underlying t = some (.struct #[f0, f1, f2]))
    (hts : P.cellTypes P.depth t = some [s, u, u]) (hn : P.cellsOf t = 3) (hs : P.underlying s = some (.slice e)) (he : P.underlying e = some (.int .i64)) (hc : P.cellsOf e = 1) (hu : P.underlying u = some (.int .i64)) (h0 : f0.type = s) (h1 : f0.offset = 0) (h2 : P.cellsOf s = 1)
    (hval : Value.okWide P w r b0 t v) (hd : DataW.Trod enc P w base spare held t v d ps) : ∃ A n c h N xs, v = .agg #[.slice A n c, .int .i64 h, .int .i64 N] ∧ RdA .i64 w A n xs ∧ n ≤ maxLen ∧ (∀ x ∈ xs, (Lit.int .i64 x).wf = true) ∧ IntKind.i64.has h ∧ IntKind.i64.has N := by
  obtain ⟨cs, rfl, hcs⟩ := open_row ht rfl hts hn hval
  obtain ⟨v0, r0, rfl, k0, q0⟩ := hcs.cons
  obtain ⟨v1, r1, rfl, k1, q1⟩ := q0.cons
  obtain ⟨v2, r2, rfl, k2, q2⟩ := q1.cons
  obtain rfl := q2.nil
  obtain ⟨A, n, c, rfl⟩ := cell_slice hs k0
  obtain ⟨h, rfl, hh⟩ := cell_int hu k1
  obtain ⟨N, rfl, hN⟩ := cell_int hu k2
  obtain ⟨fuel, hf⟩ := hd
  obtain ⟨y0, y1, y2, m, _, _, hy, _⟩ := Go.Deep.trod_struct3 ht hf
  rw [h0, h1, h2] at hy
  obtain ⟨xs, hr, hm, hwf⟩ := cells_rd hs he hc hy
  exact ⟨A, n, c, h, N, xs, rfl, hr, hm, hwf, hh, hN⟩
end Go.Proofs.Ytpljolhcikbejaa.My
