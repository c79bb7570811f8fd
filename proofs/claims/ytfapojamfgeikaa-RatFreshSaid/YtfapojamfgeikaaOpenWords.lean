/- Words of this session: what an argument's value looks like, out of the reading's own condition. -/
import Derived.Test.YtfapojamfgeikaaMaWords
import Derived.WalkKit
import Derived.ProofKit
import Derived.OpenShut
import Derived.ShutString
import Derived.ChangeOld
import Derived.Carry
import Derived.SizedLaws
namespace Go.Proofs.Ytfapojamfgeikaa.My
open Go.ChangeShapes Go.WideShapes Go.ChangeAt Go.RowKit

theorem list_of_cells {k : IntKind} : ∀ (l : List Value), (∀ v ∈ l, ∃ n : Int, v = .int k n ∧ k.has n) → ∃ xs : List Int, l = xs.map (Value.int k) ∧ ∀ x ∈ xs, k.has x
  | [], _ => ⟨[], rfl, fun x hx => by cases hx⟩
  | v :: l, h => by
    obtain ⟨n, rfl, hn⟩ := h v (by simp)
    obtain ⟨xs, rfl, hxs⟩ := list_of_cells l (fun v hv => h v (by simp [hv]))
    exact ⟨n :: xs, rfl, fun x hx => by
      rcases List.mem_cons.1 hx with rfl | hx
      · exact hn
      · exact hxs x hx⟩

/-- An array or a struct whose cells are all whole numbers of one kind. -/
theorem open_nums {P : Program} {w : World} {r : Reach} {base : Nat} {t : TypeId} {v : Value} {d : TypeDesc} {k : IntKind} {n : Nat} {ts : List TypeId} (ht : P.underlying t = some d) (hd : d.isRow = true)
    (hts : P.cellTypes P.depth t = some ts) (hall : ∀ u ∈ ts, P.underlying u = some (.int k)) (hn : P.cellsOf t = n) (h : Value.okWide P w r base t v) : ∃ xs : List Int, xs.length = n ∧ v = .agg (ma k xs) ∧ ∀ x ∈ xs, k.has x := by
  have h' : ∃ cs, v = .agg cs ∧ cs.size = P.cellsOf t ∧ Row.okWide P w r base t cs := by
    unfold Value.okWide at h
    rw [ht] at h
    cases d <;> first | exact h | (simp [TypeDesc.isRow] at hd)
  obtain ⟨cs, rfl, hsz, ts', hts', _, hc⟩ := h'
  rw [hts] at hts'
  injection hts' with hts'
  subst hts'
  obtain ⟨xs, hxs, hb⟩ := list_of_cells (k := k) cs.toList (fun v hv => by
    obtain ⟨i, hi, rfl⟩ := List.mem_iff_getElem.1 hv
    obtain ⟨u, hu, ho⟩ := hc i _ (by rw [← Array.getElem?_toList]; exact List.getElem?_eq_getElem hi)
    have hku := hall u (List.mem_of_getElem? hu)
    generalize cs.toList[i] = x at ho
    unfold Cell.okWide at ho
    rw [hku] at ho
    cases x <;> simp [Cell.ok, hku] at ho
    obtain ⟨rfl, ho⟩ := ho
    exact ⟨_, rfl, ho⟩)
  refine ⟨xs, ?_, ?_, hb⟩
  · have := congrArg List.length hxs
    simp at this
    omega
  · congr 1
    apply Array.ext'
    rw [hxs, ma_toList]

theorem has_i64 {n : Int} (h : IntKind.i64.has n) : -9223372036854775808 ≤ n ∧ n ≤ 9223372036854775807 := by
  simpa [IntKind.has, IntKind.min, IntKind.max, IntKind.signed, IntKind.bits] using h
end Go.Proofs.Ytfapojamfgeikaa.My
