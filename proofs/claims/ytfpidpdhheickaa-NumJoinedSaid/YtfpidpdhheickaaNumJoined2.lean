/- The law of joined words and lines: the walk, a gap each. -/
import Derived.Test.YtfpidpdhheickaaNumJoined
set_option linter.unusedVariables false
namespace Go.Proofs.Ytfpidpdhheickaa.My
open Go.RowKit
section
variable {P : Program} {ops : Array Oper} {o : Oper} {a : Act} {w : World} {Q : Exit → Act → World → Prop} {rest : List Oper}
theorem strAddA (hw : Region.wanted o (yielded ops a.tmps) = true) (t : TypeId) (x y : Operand) (u : TypeId) (ho : o.op = .binOp .add t x y u) (s r : ByteArray) (hx : a.eval x = .string s) (hy : a.eval y = .string r) (h : s.size + r.size ≤ 9223372036854775807)
    (hk : ∀ q, s ++ r = q → q.size ≤ s.size + r.size → wpList P ops Q rest (a.put o.dst (.string q)) w) : wpList P ops Q (o :: rest) a w :=
  strAdd hw t x y u ho s r _ hx hy h rfl (hk _ rfl (by rw [ByteArray.size_append]; exact Nat.le_refl _))
end
theorem cellB {w0 w : World} {a : Addr} {v : Value} (hb : Below w0.heap.size w0 w) (h : w0.cell? a = some v) : w.cell? a = some v := (hb.cell (World.block_lt_of_cell? w0 _ h)).trans h
theorem dj_symm {v v0 : Value} (h : v0.ownBlock = none ∨ v0.ownBlock ≠ v.ownBlock) : v.ownBlock = none ∨ v.ownBlock ≠ v0.ownBlock := by
  cases hv : v.ownBlock with
  | none => exact .inl rfl
  | some g =>
    refine .inr fun q => ?_
    rcases h with h | h
    · rw [h] at q; cases q
    · exact h (by rw [hv, q])
/-- A slice of texts that is read, at whatever address. -/
def RdX (w : World) (A : Option Addr) (ss : List ByteArray) : Prop := 0 < ss.length → ∃ ad, A = some ad ∧ ∀ j x, ss[j]? = some x → w.cell? (ad.add j) = some (.string x)
def okW (x : ByteArray) : Prop := x.size ≤ 50 ∧ x.size ≠ 0 ∧ plainB x false = true
def okL (x : ByteArray) : Prop := x.size ≤ 50 ∧ plainB x true = true
theorem plainB_list {x : ByteArray} {b : Bool} (h : plainB x b = true) : ∀ c ∈ toL x, okP b c.toNat := by
  intro c hc
  obtain ⟨i, hi, rfl⟩ := List.mem_iff_getElem.1 hc
  have h2 := of_decide_eq_true h i (by rw [← toL_len]; exact hi)
  have : bAt x i = ((toL x)[i]).toNat := bs_at (l := toL x) hi
  rw [this] at h2
  exact h2
theorem words_of {g : List UInt8} (hg : g ≠ []) (hb : ∀ c ∈ g, btw c.toNat = true) {ws : List ByteArray} (h : ∀ x ∈ ws, okW x) : wordsL (joinW g ws) = ws :=
  words_join g hg hb ws fun x hx => ⟨(h x hx).2.1, fun c hc => by
    obtain ⟨h1, h2, h3⟩ := plainB_list (h x hx).2.2 c hc
    obtain ⟨h4, h5⟩ := h3.resolve_left (by decide)
    unfold btw
    rw [beq_eq_false_iff_ne.2 h4, beq_eq_false_iff_ne.2 (by omega), beq_eq_false_iff_ne.2 h5]
    rfl⟩
theorem lines_of {ls : List ByteArray} (hl : ls.length ≤ 40) (h : ∀ x ∈ ls, okL x) : linesV (joinL ls) = (ls, 0) :=
  lines_join ls hl fun x hx => ⟨(h x hx).1, fun c hc => by
    obtain ⟨h1, h2, _⟩ := plainB_list (h x hx).2 c hc
    exact ⟨h1, h2⟩⟩
theorem own_two (w : World) : Own ((w.alloc (.cells #[] 9)).alloc (.cells #[] 9)) w.heap.size (.slice (some ⟨w.heap.size, 0, none⟩) 0 0) [] ∧ Own ((w.alloc (.cells #[] 9)).alloc (.cells #[] 9)) w.heap.size (.slice (some ⟨w.heap.size + 1, 0, none⟩) 0 0) [] := by
  have h := own_empty (w.alloc (.cells #[] 9))
  have e : (w.alloc (.cells #[] 9)).heap.size = w.heap.size + 1 := by simp
  rw [e] at h
  exact ⟨(own_empty w).alloc _, own_weak h (Nat.le_succ _)⟩
theorem mem_snoc {P : ByteArray → Prop} {l : List ByteArray} {x : ByteArray} (h : ∀ y ∈ l, P y) (hx : P x) : ∀ y ∈ l ++ [x], P y := fun y hy => by
  rcases List.mem_append.1 hy with q | q
  · exact h y q
  · rw [List.mem_singleton.1 q]; exact hx
theorem joined_long (A : Option Addr) (n c : Nat) (b : Int) (w : World) (h : 40 < n) : Calls Try.prog 8 #[.slice A n c, .int .u8 b] w fun e w' => e = .returned (.bool true) ∧ Below w.heap.size w w' := by
  have HB := startB w
  go_enter Try.func8, Try.ntmps8
  go_wp2_with (go_at_call 13; refine (awake_any _).mono ?_; rintro e w1 ⟨rfl, hb⟩; replace HB := keepB HB hb; clear hb)
  go_ret
  exact ⟨rfl, HB.out.1⟩
end Go.Proofs.Ytfpidpdhheickaa.My
