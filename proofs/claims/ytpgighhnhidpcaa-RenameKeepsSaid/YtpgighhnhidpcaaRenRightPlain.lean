/- The plain law of Right: the program's way of counting answers as the reference's. -/
import Derived.Test.YtpgighhnhidpcaaRenBackPlain
import Derived.Test.YtpgighhnhidpcaaRatRight
set_option linter.unusedVariables false
set_option linter.unusedSimpArgs false
namespace Go.Proofs.Ytpgighhnhidpcaa.My
/-- Do those that fly lead from m to M (the program's way)? -/
def stP (s : Int) (M : List Int) : List Int → Int → List RenV → Bool
  | m, _, [] => m == M
  | m, last, r :: l =>
    if r.seq ≤ last ∨ s ≤ r.seq then false
    else if Rat.regB r.u.dst = true then (if r.out = -1 ∨ r.old ≠ Rat.getM m r.u.dst then false else stP s M (Rat.setM m r.u.dst r.out) r.seq l)
    else (if r.out ≠ -1 ∨ r.old ≠ -1 then false else stP s M m r.seq l)
/-- The reference's way. -/
def stR (s : Int) (M : List Int) : List Int → Int → List RenV → Bool
  | m, _, [] => m == M
  | m, last, r :: l =>
    if r.seq ≤ last ∨ s ≤ r.seq then false
    else if Rat.regB r.u.dst = true then (if r.out < 0 ∨ r.old ≠ Rat.getM m r.u.dst then false else stR s M (Rat.setM m r.u.dst r.out) r.seq l)
    else (if r.out ≠ -1 ∨ r.old ≠ -1 then false else stR s M m r.seq l)
def goodB (r : RenV) : Bool := !Rat.regB r.u.dst || decide (0 ≤ r.out)
theorem stR_eq (s : Int) (M : List Int) : ∀ (l : List RenV) (m : List Int) (last : Int), stR s M m last l = (stP s M m last l && l.all goodB)
  | [], m, last => by simp [stR, stP]
  | r :: l, m, last => by
    unfold stR stP
    by_cases h1 : r.seq ≤ last ∨ s ≤ r.seq
    · rw [if_pos h1, if_pos h1]; rfl
    · rw [if_neg h1, if_neg h1]
      by_cases h2 : Rat.regB r.u.dst = true
      · rw [if_pos h2, if_pos h2]
        by_cases h3 : r.out < 0 ∨ r.old ≠ Rat.getM m r.u.dst
        · rw [if_pos h3]
          by_cases h4 : r.out = -1 ∨ r.old ≠ Rat.getM m r.u.dst
          · rw [if_pos h4]; rfl
          · have h5 : r.out < 0 := h3.resolve_right (fun h => h4 (.inr h))
            have hg : goodB r = false := by simp [goodB, h2]; omega
            simp [hg]
        · have h4 : ¬ (r.out = -1 ∨ r.old ≠ Rat.getM m r.u.dst) := fun h => h3 (h.imp_left (by omega))
          have hg : goodB r = true := by simp [goodB]; right; omega
          rw [if_neg h3, if_neg h4, stR_eq s M l]
          simp [hg]
      · rw [if_neg h2, if_neg h2]
        by_cases h3 : r.out ≠ -1 ∨ r.old ≠ -1
        · rw [if_pos h3, if_pos h3]; rfl
        · have hg : goodB r = true := by simp [goodB]; left; simpa using h2
          rw [if_neg h3, if_neg h3, stR_eq s M l]
          simp [hg]
theorem stP_out {s : Int} {M : List Int} : ∀ {l : List RenV} {m : List Int} {last : Int}, stP s M m last l = true → ∀ r ∈ l, Rat.regB r.u.dst = true → r.out ≠ -1
  | [], _, _, _, r, hr, _ => by cases hr
  | a :: l, m, last, h, r, hr, hb => by
    unfold stP at h
    split at h
    · cases h
    · split at h
      · rename_i h2
        split at h
        · cases h
        · rename_i h3
          rcases List.mem_cons.1 hr with rfl | hr
          · exact fun e => h3 (.inl e)
          · exact stP_out h r hr hb
      · rename_i h2
        split at h
        · cases h
        · rcases List.mem_cons.1 hr with rfl | hr
          · exact absurd hb h2
          · exact stP_out h r hr hb
/-- The registers that are out. -/
def outs (fl : List RenV) : List Int := (fl.map (·.out)).filter fun p => p != -1
/-- Is one among them that may not be? -/
def stB (n : Int) (L : List Int) : Bool := L.any fun p => decide (p < 1) || decide (n ≤ p)
/-- Is each just once among them? -/
def onesB (n : Nat) (L : List Int) : Bool := (List.range n).all fun (p : Nat) => p == 0 || L.count (p : Int) == 1
theorem onesB_iff {n : Nat} {L : List Int} : onesB n L = true ↔ ∀ p : Nat, 1 ≤ p → p < n → L.count (p : Int) = 1 := by
  unfold onesB
  rw [List.all_eq_true]
  constructor
  · intro h p h1 h2
    have := h p (List.mem_range.2 h2)
    simp only [Bool.or_eq_true, beq_iff_eq] at this
    rcases this with h0 | h0
    · omega
    · exact h0
  · intro h p hp
    simp only [Bool.or_eq_true, beq_iff_eq]
    by_cases h0 : p = 0
    · exact .inl h0
    · exact .inr (h p (by omega) (List.mem_range.1 hp))
def upL (m : Nat) : List Int := (List.range m).map fun (i : Nat) => (i : Int) + 1
theorem upL_count (a : Int) : ∀ m, (upL m).count a = if 1 ≤ a ∧ a ≤ m then 1 else 0
  | 0 => by
    simp only [upL, List.range_zero, List.map_nil, List.count_nil]
    split <;> omega
  | m + 1 => by
    have h := upL_count a m
    unfold upL at h ⊢
    rw [List.range_succ, List.map_append, List.count_append, h]
    simp only [List.map_cons, List.map_nil, List.count_cons, List.count_nil]
    by_cases e : (m : Int) + 1 = a
    · subst e
      simp only [beq_self_eq_true, if_true]
      rw [if_neg (by omega), if_pos (by omega)]
    · have e2 : ((m : Int) + 1 == a) = false := by simpa using e
      rw [e2]
      simp only [Nat.zero_add, Bool.false_eq_true, if_false, Nat.add_zero]
      split <;> split <;> omega
theorem perm_ones {n : Nat} {L : List Int} (hn : 1 ≤ n) (h : onesB n L = true) : L.Perm (upL (n - 1) ++ L.filter fun p => decide (p < 1) || decide ((n : Int) ≤ p)) := by
  rw [List.perm_iff_count]
  intro a
  rw [List.count_append, upL_count]
  by_cases ha : 1 ≤ a ∧ a < n
  · have h1 := onesB_iff.1 h a.toNat (by omega) (by omega)
    rw [show ((a.toNat : Nat) : Int) = a by omega] at h1
    rw [h1, if_pos (by omega)]
    have : (L.filter fun p => decide (p < 1) || decide ((n : Int) ≤ p)).count a = 0 := by
      rw [List.count_eq_zero]
      intro hm
      have := (List.mem_filter.1 hm).2
      simp at this
      omega
    omega
  · rw [if_neg (by omega), Nat.zero_add]
    rw [List.count_filter]
    simp
    omega
theorem ones_len {n : Nat} {L : List Int} (hn : 1 ≤ n) (h : onesB n L = true) : (L.length = n - 1 ↔ stB n L = false) := by
  have hp := (perm_ones hn h).length_eq
  rw [List.length_append] at hp
  have hu : (upL (n - 1)).length = n - 1 := by simp [upL]
  rw [hu] at hp
  constructor
  · intro hl
    have h0 : (L.filter fun p => decide (p < 1) || decide ((n : Int) ≤ p)).length = 0 := by omega
    have h1 := List.eq_nil_of_length_eq_zero h0
    rw [List.filter_eq_nil_iff] at h1
    unfold stB
    rw [List.any_eq_false]
    intro x hx
    exact h1 x hx
  · intro hs
    have h1 : (L.filter fun p => decide (p < 1) || decide ((n : Int) ≤ p)) = [] := by
      rw [List.filter_eq_nil_iff]
      unfold stB at hs
      rw [List.any_eq_false] at hs
      exact hs
    rw [h1] at hp
    simpa using hp
/-- What both look at first. -/
def gdB (v : NmV) (n : Int) : Bool := (decide (17 ≤ n) && decide (n ≤ 96)) && (Rat.rightB v.m n && (Rat.rightB v.d n && rightB v.xs v.n v.h v.N n))
def baseL (v : NmV) : List Int := ringL v.xs v.n v.h v.N ++ v.d.drop 1
def rgP (v : NmV) (n : Int) (fl : List RenV) : Bool := gdB v n && (stP v.s v.m v.d 0 fl && (onesB n.toNat (baseL v ++ (outs fl).reverse) && !stB n (baseL v ++ (outs fl).reverse)))
def rgR (v : NmV) (n : Int) (fl : List RenV) : Bool := gdB v n && (stR v.s v.m v.d 0 fl && (onesB n.toNat (baseL v ++ outs fl) && decide (((baseL v ++ outs fl).length : Int) = n - 1)))
theorem rg_eq (v : NmV) (n : Int) (fl : List RenV) : rgP v n fl = rgR v n fl := by
  unfold rgP rgR
  cases hg : gdB v n with
  | false => rfl
  | true =>
    have hn : 17 ≤ n := by
      unfold gdB at hg
      simp only [Bool.and_eq_true, decide_eq_true_eq] at hg
      exact hg.1.1
    simp only [Bool.true_and]
    rw [stR_eq]
    cases hs : stP v.s v.m v.d 0 fl with
    | false => rfl
    | true =>
      simp only [Bool.true_and]
      have hO : onesB n.toNat (baseL v ++ (outs fl).reverse) = onesB n.toNat (baseL v ++ outs fl) := by
        unfold onesB
        congr 1
        funext p
        rw [List.count_append, List.count_append, List.count_reverse]
      have hS : stB n (baseL v ++ (outs fl).reverse) = stB n (baseL v ++ outs fl) := by
        unfold stB
        rw [List.any_append, List.any_append, List.any_reverse]
      rw [hO, hS]
      cases ho : onesB n.toNat (baseL v ++ outs fl) with
      | false => simp
      | true =>
        simp only [Bool.true_and]
        have hl := ones_len (show 1 ≤ n.toNat by omega) ho
        rw [show ((n.toNat : Nat) : Int) = n by omega] at hl
        cases ht : stB n (baseL v ++ outs fl) with
        | true =>
          have : ¬ ((baseL v ++ outs fl).length : Int) = n - 1 := fun e => by
            have := hl.1 (by omega)
            rw [ht] at this
            cases this
          rw [decide_eq_false this]
          simp
        | false =>
          have h1 : (baseL v ++ outs fl).length = n.toNat - 1 := hl.2 ht
          have h2 : ((baseL v ++ outs fl).length : Int) = n - 1 := by omega
          have h3 : fl.all goodB = true := by
            rw [List.all_eq_true]
            intro r hr
            unfold goodB
            cases hb : Rat.regB r.u.dst with
            | false => rfl
            | true =>
              have hne := stP_out hs r hr hb
              have hm : r.out ∈ baseL v ++ outs fl := List.mem_append_right _ (by
                unfold outs
                rw [List.mem_filter]
                exact ⟨List.mem_map_of_mem hr, by simpa using hne⟩)
              unfold stB at ht
              rw [List.any_eq_false] at ht
              have := ht _ hm
              simp at this
              simp
              omega
          rw [h3, decide_eq_true h2]
          rfl
end Go.Proofs.Ytpgighhnhidpcaa.My
