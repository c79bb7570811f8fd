/- The plain law of texts, second part: what is printed is read again; both ways are one. -/
import Derived.Test.YtnlghbnehfgobaaDoorTextParsePlain
import Derived.Test.YtnlghbnehfgobaaDoorTextCause
set_option linter.unusedVariables false
set_option linter.unusedSimpArgs false
namespace Go.Proofs.YtnlghbnehfgobaaDoor.My
open Go.RowKit
def rightQ (op : Int) (q : Q4) : Nat := rightI op q.rd q.ra q.rb q.im
theorem right_range {op : Int} {q : Q4} (h : rightQ op q = 0) : 1 ≤ op ∧ op ≤ 63 ∧ ¬ formV op = 0 := by
  unfold rightQ rightI at h
  by_cases hf : formV op = 0
  · rw [if_pos hf] at h; cases h
  · refine ⟨?_, ?_, hf⟩
    all_goals
      have : ¬ (op < 1 ∨ 63 < op) := fun r => hf (by unfold formV; rw [if_pos r])
      omega
theorem name_at {k : Nat} (h : k < 63) : nameV ((k : Int) + 1) = namesL.getD k [] := by
  unfold nameV
  rw [if_neg (by omega), show ((k : Int) + 1 - 1).toNat = k by omega]
theorem names_all : ∀ k : Fin 63, opV (namesL.getD k.val []) = k.val + 1 ∧ (32 : UInt8) ∉ namesL.getD k.val [] ∧ namesL.getD k.val [] ≠ [] := by decide +kernel
theorem name_op {op : Int} (h1 : 1 ≤ op) (h2 : op ≤ 63) : ((opV (nameV op) : Nat) : Int) = op ∧ (32 : UInt8) ∉ nameV op ∧ nameV op ≠ [] := by
  obtain ⟨k, rfl⟩ : ∃ k : Nat, op = (k : Int) + 1 := ⟨(op - 1).toNat, by omega⟩
  have hk : k < 63 := by omega
  obtain ⟨a, b, c⟩ := names_all ⟨k, hk⟩
  rw [name_at hk]
  exact ⟨by rw [a]; rfl, b, c⟩
theorem op_none : opV [] = 0 := by decide +kernel
theorem has_all : ∀ F : Fin 12, hasV (F.val : Int) 1 = (fieldsV (F.val : Int)).contains 100 ∧ hasV (F.val : Int) 2 = (fieldsV (F.val : Int)).contains 97 ∧ hasV (F.val : Int) 4 = (fieldsV (F.val : Int)).contains 98 ∧ hasV (F.val : Int) 8 = (fieldsV (F.val : Int)).contains 105 := by decide +kernel
theorem bad_no {F b n : Int} (h : badR F b n = false) : 0 ≤ n ∧ n ≤ 15 ∧ (hasV F b = false → n = 0) := by
  unfold badR at h
  simp only [Bool.or_eq_false_iff, decide_eq_false_iff_not, Bool.and_eq_false_iff, Bool.not_eq_false', bne_eq_false_iff_eq] at h
  obtain ⟨⟨h1, h2⟩, h3⟩ := h
  refine ⟨by omega, by omega, fun q => ?_⟩
  rcases h3 with h3 | h3
  · rw [q] at h3; cases h3
  · exact h3
theorem within_le {op n : Int} (h : withinV op n = true) : -131072 ≤ n ∧ n < 262144 := by
  unfold withinV at h
  split at h
  · have := of_decide_eq_true h; omega
  · split at h
    · have := of_decide_eq_true h; omega
    · split at h
      · have := of_decide_eq_true h; omega
      · have := of_decide_eq_true h; omega
theorem right_facts {op : Int} {q : Q4} (h : rightQ op q = 0) : badR (formV op) 1 q.rd = false ∧ badR (formV op) 2 q.ra = false ∧ badR (formV op) 4 q.rb = false ∧ (hasV (formV op) 8 = false → q.im = 0) ∧ (hasV (formV op) 8 = true → withinV op q.im = true) := by
  unfold rightQ rightI at h
  split at h
  · cases h
  split at h
  · cases h
  rename_i a1
  split at h
  · cases h
  rename_i a2
  split at h
  · cases h
  rename_i a3
  split at h
  · cases h
  rename_i a4
  split at h
  · cases h
  rename_i a5
  refine ⟨by simpa using a1, by simpa using a2, by simpa using a3, fun r => ?_, fun r => ?_⟩
  · by_cases z : q.im = 0
    · exact z
    · exact absurd ⟨r, z⟩ a4
  · cases z : withinV op q.im
    · exact absurd ⟨r, z⟩ a5
    · rfl
theorem right_small {op : Int} {q : Q4} (h : rightQ op q = 0) (c : Int) : (q.at c).natAbs < 10 ^ 9 := by
  obtain ⟨a1, a2, a3, a4, a5⟩ := right_facts h
  have b1 := bad_no a1
  have b2 := bad_no a2
  have b3 := bad_no a3
  have b4 : -131072 ≤ q.im ∧ q.im < 262144 := by
    cases z : hasV (formV op) 8
    · have := a4 z; omega
    · exact within_le (a5 z)
  have h9 : (10 : Nat) ^ 9 = 1000000000 := by decide
  rw [h9]
  unfold Q4.at valV
  repeat' split
  all_goals omega
theorem put_fields {op : Int} {q : Q4} (h : rightQ op q = 0) : putAll q.at (fieldsV (formV op)) q0 = q := by
  obtain ⟨a1, a2, a3, a4, a5⟩ := right_facts h
  have b1 := (bad_no a1).2.2
  have b2 := (bad_no a2).2.2
  have b3 := (bad_no a3).2.2
  obtain ⟨f1, f2⟩ := form_range op
  obtain ⟨F, hF⟩ : ∃ F : Nat, formV op = F := ⟨(formV op).toNat, by omega⟩
  rw [hF] at f2 b1 b2 b3 a4 ⊢
  have hF12 : F < 12 := by omega
  obtain ⟨g1, g2, g3, g4⟩ := has_all ⟨F, hF12⟩
  simp only at g1 g2 g3 g4
  rw [g1] at b1
  rw [g2] at b2
  rw [g3] at b3
  rw [g4] at a4
  obtain ⟨rd, ra, rb, im⟩ := q
  clear g1 g2 g3 g4 a1 a2 a3 a5 f1 f2 h hF
  have hcase : F = 0 ∨ F = 1 ∨ F = 2 ∨ F = 3 ∨ F = 4 ∨ F = 5 ∨ F = 6 ∨ F = 7 ∨ F = 8 ∨ F = 9 ∨ F = 10 ∨ F = 11 := by omega
  rcases hcase with rfl | rfl | rfl | rfl | rfl | rfl | rfl | rfl | rfl | rfl | rfl | rfl
  all_goals
    (try rw [show rd = 0 from b1 (by decide)])
    (try rw [show ra = 0 from b2 (by decide)])
    (try rw [show rb = 0 from b3 (by decide)])
    (try rw [show im = 0 from a4 (by decide)])
    rfl
theorem print_right {op : Int} {q : Q4} (h : rightQ op q = 0) : printQ op q = if fieldsV (formV op) = [] then nameV op else nameV op ++ 32 :: Lib.join ((fieldsV (formV op)).map (partW q.at)) [44, 32] := by
  unfold printQ printV
  rw [if_neg (by unfold rightQ at h; omega)]
  by_cases e : fieldsV (formV op) = []
  · rw [if_pos e, if_pos e]
  · rw [if_neg e, if_neg e, List.append_assoc]
    rfl
theorem print_wrong {op : Int} {q : Q4} (h : ¬ rightQ op q = 0) : printQ op q = [] := by
  unfold printQ printV
  exact if_pos h
theorem print_head {op : Int} {q : Q4} (h : rightQ op q = 0) : headV (printQ op q) = nameV op := by
  obtain ⟨r1, r2, _⟩ := right_range h
  obtain ⟨_, n1, _⟩ := name_op r1 r2
  rw [print_right h]
  split
  · exact (head_all n1).1
  · exact (head_app n1).1
theorem print_some {op : Int} {q : Q4} (h : rightQ op q = 0) : printQ op q ≠ [] := by
  obtain ⟨r1, r2, _⟩ := right_range h
  obtain ⟨_, _, n2⟩ := name_op r1 r2
  rw [print_right h]
  split
  · exact n2
  · simp
theorem i64_at {op : Int} {q : Q4} (h : rightQ op q = 0) (c : Int) : -9223372036854775808 ≤ q.at c ∧ q.at c ≤ 9223372036854775807 := by
  have := right_small h c
  have h9 : (10 : Nat) ^ 9 = 1000000000 := by decide
  rw [h9] at this
  omega
theorem part_comma (v : Int → Int) (fl : List UInt8) : ∀ x ∈ fl.map (partW v), (44 : UInt8) ∉ x := by
  intro x hx
  obtain ⟨c, _, rfl⟩ := List.mem_map.1 hx
  exact fun hm => (part_bytes v c 44 hm).1 rfl
theorem print_goP {op : Int} {q : Q4} (h : rightQ op q = 0) : goP (fieldsV (formV op)) (splitV (restV (printQ op q))) q0 = some q := by
  obtain ⟨r1, r2, _⟩ := right_range h
  obtain ⟨_, n1, _⟩ := name_op r1 r2
  have hp := put_fields h
  rw [print_right h]
  cases hf : fieldsV (formV op) with
  | nil =>
    rw [hf] at hp
    rw [goP]
    exact congrArg some hp
  | cons c fl =>
    rw [if_neg (by simp), (head_app n1).2, List.map_cons, split_join _ _ (fun x hx => part_comma q.at (c :: fl) x (by rw [List.map_cons]; exact hx)), ← List.map_cons (f := partW q.at), goP_parts q.at (i64_at h), ← hf, hp]
theorem print_goR {op : Int} {q : Q4} (h : rightQ op q = 0) : goR (fieldsV (formV op)) (sufV (printQ op q)) q0 = q := by
  obtain ⟨r1, r2, _⟩ := right_range h
  obtain ⟨_, n1, _⟩ := name_op r1 r2
  have hp := put_fields h
  rw [print_right h]
  cases hf : fieldsV (formV op) with
  | nil =>
    rw [hf] at hp
    rw [goR]
    exact hp
  | cons c fl =>
    rw [if_neg (by simp), suf_skip (fun x hx => fun e => n1 (by rw [← e]; exact hx)), sufV, if_pos rfl, goR_parts q.at (right_small h), ← hf, hp]
theorem par_print {op : Int} {q : Q4} (h : rightQ op q = 0) : parP (printQ op q) = ⟨op, q, 0⟩ := by
  obtain ⟨r1, r2, _⟩ := right_range h
  obtain ⟨n0, _, _⟩ := name_op r1 r2
  unfold parP
  rw [print_head h, n0, if_neg (by omega), print_goP h]
  show doneV op q (printQ op q) = _
  unfold doneV
  rw [if_pos rfl]
theorem par_same (s : List UInt8) : parR s = parP s := by
  unfold parR parP
  by_cases h0 : opV (headV s) = 0
  · rw [if_pos h0, if_pos h0]
  rw [if_neg h0, if_neg h0]
  obtain ⟨op, hop⟩ : ∃ op : Int, ((opV (headV s) : Nat) : Int) = op := ⟨_, rfl⟩
  rw [hop]
  have hs : s ≠ [] := fun e => h0 (by rw [e]; exact op_none)
  by_cases hq : ∃ q, printQ op q = s
  · obtain ⟨q, hq⟩ := hq
    have hr : rightQ op q = 0 := by
      by_cases r : rightQ op q = 0
      · exact r
      · rw [print_wrong r] at hq; exact absurd hq.symm hs
    rw [← hq, print_goP hr, print_goR hr]
  · have hd : ∀ q, doneV op q s = ⟨0, q0, 2⟩ := fun q => by
      unfold doneV
      rw [if_neg (fun r => hq ⟨q, r⟩)]
    rw [hd]
    cases goP (fieldsV (formV op)) (splitV (restV s)) q0 with
    | none => rfl
    | some q => exact (hd q).symm
theorem par_e (s : List UInt8) : ((parP s).e = 0 ∧ printQ (parP s).op (parP s).q = s) ∨ ((parP s).op = 0 ∧ (parP s).q = q0 ∧ ((parP s).e = 2 ∨ (parP s).e = 9)) := by
  unfold parP
  split
  · exact .inr ⟨rfl, rfl, .inr rfl⟩
  · split
    · exact .inr ⟨rfl, rfl, .inl rfl⟩
    · unfold doneV
      split
      · rename_i h
        exact .inl ⟨rfl, h⟩
      · exact .inr ⟨rfl, rfl, .inl rfl⟩
theorem print_inj {a b : Int} {p q : Q4} (h : printQ a p = printQ b q) (hn : printQ a p ≠ []) : a = b ∧ p = q := by
  have ha : rightQ a p = 0 := by
    by_cases r : rightQ a p = 0
    · exact r
    · exact absurd (print_wrong r) hn
  have hb : rightQ b q = 0 := by
    by_cases r : rightQ b q = 0
    · exact r
    · rw [h] at hn; exact absurd (print_wrong r) hn
  have e1 := par_print ha
  have e2 := par_print hb
  rw [h, e2] at e1
  injection e1 with e1 e3
  exact ⟨e1.symm, e3.symm⟩
theorem cause_all : ∀ i j : Fin 19, causeV (i.val : Int) = causeV (j.val : Int) → causeV (i.val : Int) ≠ [] → i = j := by decide +kernel
theorem cause_lt {n : Int} (h : causeV n ≠ []) : 0 ≤ n ∧ n < 19 := by
  by_cases q : 0 ≤ n ∧ n < 19
  · exact q
  · exfalso
    apply h
    unfold causeV
    rw [if_neg (by omega), if_neg (by omega), if_neg (by omega), if_neg (by omega)]
theorem cause_inj {n m : Int} (h : causeV n = causeV m) (hn : causeV n ≠ []) : n = m := by
  have h1 := cause_lt hn
  have h2 := cause_lt (n := m) (by rw [← h]; exact hn)
  obtain ⟨i, rfl⟩ : ∃ i : Nat, n = i := ⟨n.toNat, by omega⟩
  obtain ⟨j, rfl⟩ : ∃ j : Nat, m = j := ⟨m.toNat, by omega⟩
  have := cause_all ⟨i, by omega⟩ ⟨j, by omega⟩ h hn
  have := Fin.mk.inj this
  omega
end Go.Proofs.YtnlghbnehfgobaaDoor.My
