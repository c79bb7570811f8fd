/- Words of this session: what an argument's value looks like, out of the reading's own condition. -/
import Derived.Test.YtaclidjhgpkmpaaDoorMaWords
import Derived.WalkKit
import Derived.ProofKit
import Derived.OpenShut
import Derived.ShutString
import Derived.ChangeOld
import Derived.Carry
import Derived.SizedLaws
namespace Go.Proofs.YtaclidjhgpkmpaaDoor.My
open Go.ChangeShapes Go.WideShapes Go.ChangeAt Go.RowKit

theorem list_of_cells {k : IntKind} : ∀ (l : List Value), (∀ v ∈ l, ∃ n : Int, v = .int k n ∧ k.has n) → ∃ xs : List Int, l = xs.map (Value.int k) ∧ ∀ x ∈ xs, k.has x
  | [], _ => ⟨[], rfl, fun x hx => by cases hx⟩
  | v :: l, h => by
    obtain ⟨n, rfl, hn⟩ := h v (by simp)
    obtain ⟨xs, rfl, hxs⟩ := list_of_cells l (fun v hv => h v (by simp [hv]))
    exact ⟨n :: xs, rfl, fun x hx => by
      rcases List.mem_cons.1 hx with rfl | hx
      · exact hn
      · exact hxs x hx⟩

/-- An array or a struct whose cells are all whole numbers of one kind. -/
theorem open_nums {P : Program} {w : World} {r : Reach} {base : Nat} {t : TypeId} {v : Value} {d : TypeDesc} {k : IntKind} {n : Nat} {ts : List TypeId} (ht : P.underlying t = some d) (hd : d.isRow = true)
    (hts : P.cellTypes P.depth t = some ts) (hall : ∀ u ∈ ts, P.underlying u = some (.int k)) (hn : P.cellsOf t = n) (h : Value.okWide P w r base t v) : ∃ xs : List Int, xs.length = n ∧ v = .agg (ma k xs) ∧ ∀ x ∈ xs, k.has x := by
  have h' : ∃ cs, v = .agg cs ∧ cs.size = P.cellsOf t ∧ Row.okWide P w r base t cs := by
    unfold Value.okWide at h
    rw [ht] at h
    cases d <;> first | exact h | (simp [TypeDesc.isRow] at hd)
  obtain ⟨cs, rfl, hsz, ts', hts', _, hc⟩ := h'
  rw [hts] at hts'
  injection hts' with hts'
  subst hts'
  obtain ⟨xs, hxs, hb⟩ := list_of_cells (k := k) cs.toList (fun v hv => by
    obtain ⟨i, hi, rfl⟩ := List.mem_iff_getElem.1 hv
    obtain ⟨u, hu, ho⟩ := hc i _ (by rw [← Array.getElem?_toList]; exact List.getElem?_eq_getElem hi)
    have hku := hall u (List.mem_of_getElem? hu)
    generalize cs.toList[i] = x at ho
    unfold Cell.okWide at ho
    rw [hku] at ho
    cases x <;> simp [Cell.ok, hku] at ho
    obtain ⟨rfl, ho⟩ := ho
    exact ⟨_, rfl, ho⟩)
  refine ⟨xs, ?_, ?_, hb⟩
  · have := congrArg List.length hxs
    simp at this
    omega
  · congr 1
    apply Array.ext'
    rw [hxs, ma_toList]

/-- Each cell is of its type. -/
def OkAll (P : Program) (w : World) (r : Reach) (base : Nat) : List TypeId → List Value → Prop
  | [], [] => True
  | t :: ts, c :: cs => Cell.okWide P w r base t c ∧ OkAll P w r base ts cs
  | _, _ => False
theorem OkAll.cons {P : Program} {w : World} {r : Reach} {base : Nat} {t : TypeId} {ts : List TypeId} {cs : List Value} (h : OkAll P w r base (t :: ts) cs) : ∃ c cs', cs = c :: cs' ∧ Cell.okWide P w r base t c ∧ OkAll P w r base ts cs' := by
  cases cs with
  | nil => exact h.elim
  | cons c cs => exact ⟨c, cs, rfl, h.1, h.2⟩
theorem OkAll.nil {P : Program} {w : World} {r : Reach} {base : Nat} {cs : List Value} (h : OkAll P w r base [] cs) : cs = [] := by
  cases cs with
  | nil => rfl
  | cons c cs => exact h.elim
theorem okAll_of {P : Program} {w : World} {r : Reach} {base : Nat} : ∀ (ts : List TypeId) (cs : List Value), cs.length = ts.length → (∀ i (h : i < cs.length) u, ts[i]? = some u → Cell.okWide P w r base u cs[i]) → OkAll P w r base ts cs
  | [], [], _, _ => trivial
  | [], _ :: _, h, _ => by simp at h
  | _ :: _, [], h, _ => by simp at h
  | t :: ts, c :: cs, hl, h => ⟨h 0 (by simp) t rfl, okAll_of ts cs (by simpa using hl) (fun i hi u hu => by
      have := h (i + 1) (by simpa using hi) u (by simpa using hu)
      simpa using this)⟩
/-- A struct or an array: its cells, each of its type. -/
theorem open_row {P : Program} {w : World} {r : Reach} {base : Nat} {t : TypeId} {v : Value} {d : TypeDesc} {ts : List TypeId} (ht : P.underlying t = some d) (hd : d.isRow = true)
    (hts : P.cellTypes P.depth t = some ts) (hn : P.cellsOf t = ts.length) (h : Value.okWide P w r base t v) : ∃ cs : List Value, v = .agg cs.toArray ∧ OkAll P w r base ts cs := by
  have h' : ∃ cs, v = .agg cs ∧ cs.size = P.cellsOf t ∧ Row.okWide P w r base t cs := by
    unfold Value.okWide at h
    rw [ht] at h
    cases d <;> first | exact h | (simp [TypeDesc.isRow] at hd)
  obtain ⟨cs, rfl, hsz, ts', hts', _, hc⟩ := h'
  rw [hts] at hts'
  injection hts' with hts'
  subst hts'
  refine ⟨cs.toList, rfl, okAll_of ts cs.toList (by simp [hsz, hn]) fun i hi u hu => ?_⟩
  obtain ⟨u', hu', ho⟩ := hc i _ (by rw [← Array.getElem?_toList]; exact List.getElem?_eq_getElem hi)
  have hlt : i < ts.length := (List.getElem?_eq_some_iff.1 hu).1
  rw [Nat.mod_eq_of_lt hlt, hu] at hu'
  injection hu' with hu'
  subst hu'
  exact ho
theorem cell_int {P : Program} {w : World} {r : Reach} {base : Nat} {u : TypeId} {v : Value} {k : IntKind} (hu : P.underlying u = some (.int k)) (h : Cell.okWide P w r base u v) : ∃ n : Int, v = .int k n ∧ k.has n := by
  unfold Cell.okWide at h
  rw [hu] at h
  cases v <;> simp [Cell.ok, hu] at h
  obtain ⟨rfl, h⟩ := h
  exact ⟨_, rfl, h⟩
theorem has_u32 {n : Int} (h : IntKind.u32.has n) : 0 ≤ n ∧ n < 4294967296 := by
  have : 0 ≤ n ∧ n ≤ 4294967295 := by simpa [IntKind.has, IntKind.min, IntKind.max, IntKind.signed, IntKind.bits] using h
  omega
theorem has_u8 {n : Int} (h : IntKind.u8.has n) : 0 ≤ n ∧ n < 256 := by
  have : 0 ≤ n ∧ n ≤ 255 := by simpa [IntKind.has, IntKind.min, IntKind.max, IntKind.signed, IntKind.bits] using h
  omega
theorem wf_u32 {n : Int} (h : (Lit.int .u32 n).wf = true) : 0 ≤ n ∧ n < 4294967296 := by
  simp only [Lit.wf, IntKind.min, IntKind.max, IntKind.signed, IntKind.bits, Bool.and_eq_true] at h
  simp at h
  omega
theorem wf_u8 {n : Int} (h : (Lit.int .u8 n).wf = true) : 0 ≤ n ∧ n < 256 := by
  simp only [Lit.wf, IntKind.min, IntKind.max, IntKind.signed, IntKind.bits, Bool.and_eq_true] at h
  simp at h
  omega
theorem wf_i64 {n : Int} (h : (Lit.int .i64 n).wf = true) : -9223372036854775808 ≤ n ∧ n ≤ 9223372036854775807 := by
  simp only [Lit.wf, IntKind.min, IntKind.max, IntKind.signed, IntKind.bits, Bool.and_eq_true, decide_eq_true_eq] at h
  simp at h
  omega
theorem has_i64 {n : Int} (h : IntKind.i64.has n) : -9223372036854775808 ≤ n ∧ n ≤ 9223372036854775807 := by
  simpa [IntKind.has, IntKind.min, IntKind.max, IntKind.signed, IntKind.bits] using h
end Go.Proofs.YtaclidjhgpkmpaaDoor.My
