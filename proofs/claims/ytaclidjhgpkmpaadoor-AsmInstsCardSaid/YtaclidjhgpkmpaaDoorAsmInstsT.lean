/- The plain law of texts, second part: what is printed is read again; both ways are one. Plain: instructions, printed one a line, come to their words. Walk: the law of instructions. An image among the arguments: what its value looks like; is it light; where a row lists variables. AsmInsts: instructions, printed one a line, are assembled to their words: for every list of at most 60 instructions (of others the chapter's examples alone). -/
import Derived.Test.YtaclidjhgpkmpaaDoorTextParsePlain
import Derived.Test.YtaclidjhgpkmpaaDoorAsmT1
import Derived.Test.YtaclidjhgpkmpaaDoorOpenWords
import Derived.Deep.Slices
set_option linter.unusedVariables false
set_option linter.unusedSimpArgs false
namespace Go.Proofs.YtaclidjhgpkmpaaDoor.My
open Go.RowKit
def rightQ (op : Int) (q : Q4) : Nat := rightI op q.rd q.ra q.rb q.im
theorem right_range {op : Int} {q : Q4} (h : rightQ op q = 0) : 1 ≤ op ∧ op ≤ 63 ∧ ¬ formV op = 0 := by
  unfold rightQ rightI at h
  by_cases hf : formV op = 0
  · rw [if_pos hf] at h; cases h
  · refine ⟨?_, ?_, hf⟩
    all_goals
      have : ¬ (op < 1 ∨ 63 < op) := fun r => hf (by unfold formV; rw [if_pos r])
      omega
theorem name_at {k : Nat} (h : k < 63) : nameV ((k : Int) + 1) = namesL.getD k [] := by
  unfold nameV
  rw [if_neg (by omega), show ((k : Int) + 1 - 1).toNat = k by omega]
theorem names_all : ∀ k : Fin 63, opV (namesL.getD k.val []) = k.val + 1 ∧ (32 : UInt8) ∉ namesL.getD k.val [] ∧ namesL.getD k.val [] ≠ [] := by decide +kernel
theorem name_op {op : Int} (h1 : 1 ≤ op) (h2 : op ≤ 63) : ((opV (nameV op) : Nat) : Int) = op ∧ (32 : UInt8) ∉ nameV op ∧ nameV op ≠ [] := by
  obtain ⟨k, rfl⟩ : ∃ k : Nat, op = (k : Int) + 1 := ⟨(op - 1).toNat, by omega⟩
  have hk : k < 63 := by omega
  obtain ⟨a, b, c⟩ := names_all ⟨k, hk⟩
  rw [name_at hk]
  exact ⟨by rw [a]; rfl, b, c⟩
theorem op_none : opV [] = 0 := by decide +kernel
theorem has_all : ∀ F : Fin 12, hasV (F.val : Int) 1 = (fieldsV (F.val : Int)).contains 100 ∧ hasV (F.val : Int) 2 = (fieldsV (F.val : Int)).contains 97 ∧ hasV (F.val : Int) 4 = (fieldsV (F.val : Int)).contains 98 ∧ hasV (F.val : Int) 8 = (fieldsV (F.val : Int)).contains 105 := by decide +kernel
theorem bad_no {F b n : Int} (h : badR F b n = false) : 0 ≤ n ∧ n ≤ 15 ∧ (hasV F b = false → n = 0) := by
  unfold badR at h
  simp only [Bool.or_eq_false_iff, decide_eq_false_iff_not, Bool.and_eq_false_iff, Bool.not_eq_false', bne_eq_false_iff_eq] at h
  obtain ⟨⟨h1, h2⟩, h3⟩ := h
  refine ⟨by omega, by omega, fun q => ?_⟩
  rcases h3 with h3 | h3
  · rw [q] at h3; cases h3
  · exact h3
theorem within_le {op n : Int} (h : withinV op n = true) : -131072 ≤ n ∧ n < 262144 := by
  unfold withinV at h
  split at h
  · have := of_decide_eq_true h; omega
  · split at h
    · have := of_decide_eq_true h; omega
    · split at h
      · have := of_decide_eq_true h; omega
      · have := of_decide_eq_true h; omega
theorem right_facts {op : Int} {q : Q4} (h : rightQ op q = 0) : badR (formV op) 1 q.rd = false ∧ badR (formV op) 2 q.ra = false ∧ badR (formV op) 4 q.rb = false ∧ (hasV (formV op) 8 = false → q.im = 0) ∧ (hasV (formV op) 8 = true → withinV op q.im = true) := by
  unfold rightQ rightI at h
  split at h
  · cases h
  split at h
  · cases h
  rename_i a1
  split at h
  · cases h
  rename_i a2
  split at h
  · cases h
  rename_i a3
  split at h
  · cases h
  rename_i a4
  split at h
  · cases h
  rename_i a5
  refine ⟨by simpa using a1, by simpa using a2, by simpa using a3, fun r => ?_, fun r => ?_⟩
  · by_cases z : q.im = 0
    · exact z
    · exact absurd ⟨r, z⟩ a4
  · cases z : withinV op q.im
    · exact absurd ⟨r, z⟩ a5
    · rfl
theorem right_small {op : Int} {q : Q4} (h : rightQ op q = 0) (c : Int) : (q.at c).natAbs < 10 ^ 9 := by
  obtain ⟨a1, a2, a3, a4, a5⟩ := right_facts h
  have b1 := bad_no a1
  have b2 := bad_no a2
  have b3 := bad_no a3
  have b4 : -131072 ≤ q.im ∧ q.im < 262144 := by
    cases z : hasV (formV op) 8
    · have := a4 z; omega
    · exact within_le (a5 z)
  have h9 : (10 : Nat) ^ 9 = 1000000000 := by decide
  rw [h9]
  unfold Q4.at valV
  repeat' split
  all_goals omega
theorem put_fields {op : Int} {q : Q4} (h : rightQ op q = 0) : putAll q.at (fieldsV (formV op)) q0 = q := by
  obtain ⟨a1, a2, a3, a4, a5⟩ := right_facts h
  have b1 := (bad_no a1).2.2
  have b2 := (bad_no a2).2.2
  have b3 := (bad_no a3).2.2
  obtain ⟨f1, f2⟩ := form_range op
  obtain ⟨F, hF⟩ : ∃ F : Nat, formV op = F := ⟨(formV op).toNat, by omega⟩
  rw [hF] at f2 b1 b2 b3 a4 ⊢
  have hF12 : F < 12 := by omega
  obtain ⟨g1, g2, g3, g4⟩ := has_all ⟨F, hF12⟩
  simp only at g1 g2 g3 g4
  rw [g1] at b1
  rw [g2] at b2
  rw [g3] at b3
  rw [g4] at a4
  obtain ⟨rd, ra, rb, im⟩ := q
  clear g1 g2 g3 g4 a1 a2 a3 a5 f1 f2 h hF
  have hcase : F = 0 ∨ F = 1 ∨ F = 2 ∨ F = 3 ∨ F = 4 ∨ F = 5 ∨ F = 6 ∨ F = 7 ∨ F = 8 ∨ F = 9 ∨ F = 10 ∨ F = 11 := by omega
  rcases hcase with rfl | rfl | rfl | rfl | rfl | rfl | rfl | rfl | rfl | rfl | rfl | rfl
  all_goals
    (try rw [show rd = 0 from b1 (by decide)])
    (try rw [show ra = 0 from b2 (by decide)])
    (try rw [show rb = 0 from b3 (by decide)])
    (try rw [show im = 0 from a4 (by decide)])
    rfl
theorem print_right {op : Int} {q : Q4} (h : rightQ op q = 0) : printQ op q = if fieldsV (formV op) = [] then nameV op else nameV op ++ 32 :: Lib.join ((fieldsV (formV op)).map (partW q.at)) [44, 32] := by
  unfold printQ printV
  rw [if_neg (by unfold rightQ at h; omega)]
  by_cases e : fieldsV (formV op) = []
  · rw [if_pos e, if_pos e]
  · rw [if_neg e, if_neg e, List.append_assoc]
    rfl
theorem print_wrong {op : Int} {q : Q4} (h : ¬ rightQ op q = 0) : printQ op q = [] := by
  unfold printQ printV
  exact if_pos h
theorem print_head {op : Int} {q : Q4} (h : rightQ op q = 0) : headV (printQ op q) = nameV op := by
  obtain ⟨r1, r2, _⟩ := right_range h
  obtain ⟨_, n1, _⟩ := name_op r1 r2
  rw [print_right h]
  split
  · exact (head_all n1).1
  · exact (head_app n1).1
theorem print_some {op : Int} {q : Q4} (h : rightQ op q = 0) : printQ op q ≠ [] := by
  obtain ⟨r1, r2, _⟩ := right_range h
  obtain ⟨_, _, n2⟩ := name_op r1 r2
  rw [print_right h]
  split
  · exact n2
  · simp
theorem i64_at {op : Int} {q : Q4} (h : rightQ op q = 0) (c : Int) : -9223372036854775808 ≤ q.at c ∧ q.at c ≤ 9223372036854775807 := by
  have := right_small h c
  have h9 : (10 : Nat) ^ 9 = 1000000000 := by decide
  rw [h9] at this
  omega
theorem part_comma (v : Int → Int) (fl : List UInt8) : ∀ x ∈ fl.map (partW v), (44 : UInt8) ∉ x := by
  intro x hx
  obtain ⟨c, _, rfl⟩ := List.mem_map.1 hx
  exact fun hm => (part_bytes v c 44 hm).1 rfl
theorem print_goP {op : Int} {q : Q4} (h : rightQ op q = 0) : goP (fieldsV (formV op)) (splitV (restV (printQ op q))) q0 = some q := by
  obtain ⟨r1, r2, _⟩ := right_range h
  obtain ⟨_, n1, _⟩ := name_op r1 r2
  have hp := put_fields h
  rw [print_right h]
  cases hf : fieldsV (formV op) with
  | nil =>
    rw [hf] at hp
    rw [goP]
    exact congrArg some hp
  | cons c fl =>
    rw [if_neg (by simp), (head_app n1).2, List.map_cons, split_join _ _ (fun x hx => part_comma q.at (c :: fl) x (by rw [List.map_cons]; exact hx)), ← List.map_cons (f := partW q.at), goP_parts q.at (i64_at h), ← hf, hp]
theorem print_goR {op : Int} {q : Q4} (h : rightQ op q = 0) : goR (fieldsV (formV op)) (sufV (printQ op q)) q0 = q := by
  obtain ⟨r1, r2, _⟩ := right_range h
  obtain ⟨_, n1, _⟩ := name_op r1 r2
  have hp := put_fields h
  rw [print_right h]
  cases hf : fieldsV (formV op) with
  | nil =>
    rw [hf] at hp
    rw [goR]
    exact hp
  | cons c fl =>
    rw [if_neg (by simp), suf_skip (fun x hx => fun e => n1 (by rw [← e]; exact hx)), sufV, if_pos rfl, goR_parts q.at (right_small h), ← hf, hp]
theorem par_print {op : Int} {q : Q4} (h : rightQ op q = 0) : parP (printQ op q) = ⟨op, q, 0⟩ := by
  obtain ⟨r1, r2, _⟩ := right_range h
  obtain ⟨n0, _, _⟩ := name_op r1 r2
  unfold parP
  rw [print_head h, n0, if_neg (by omega), print_goP h]
  show doneV op q (printQ op q) = _
  unfold doneV
  rw [if_pos rfl]
theorem par_same (s : List UInt8) : parR s = parP s := by
  unfold parR parP
  by_cases h0 : opV (headV s) = 0
  · rw [if_pos h0, if_pos h0]
  rw [if_neg h0, if_neg h0]
  obtain ⟨op, hop⟩ : ∃ op : Int, ((opV (headV s) : Nat) : Int) = op := ⟨_, rfl⟩
  rw [hop]
  have hs : s ≠ [] := fun e => h0 (by rw [e]; exact op_none)
  by_cases hq : ∃ q, printQ op q = s
  · obtain ⟨q, hq⟩ := hq
    have hr : rightQ op q = 0 := by
      by_cases r : rightQ op q = 0
      · exact r
      · rw [print_wrong r] at hq; exact absurd hq.symm hs
    rw [← hq, print_goP hr, print_goR hr]
  · have hd : ∀ q, doneV op q s = ⟨0, q0, 2⟩ := fun q => by
      unfold doneV
      rw [if_neg (fun r => hq ⟨q, r⟩)]
    rw [hd]
    cases goP (fieldsV (formV op)) (splitV (restV s)) q0 with
    | none => rfl
    | some q => exact (hd q).symm
theorem par_e (s : List UInt8) : ((parP s).e = 0 ∧ printQ (parP s).op (parP s).q = s) ∨ ((parP s).op = 0 ∧ (parP s).q = q0 ∧ ((parP s).e = 2 ∨ (parP s).e = 9)) := by
  unfold parP
  split
  · exact .inr ⟨rfl, rfl, .inr rfl⟩
  · split
    · exact .inr ⟨rfl, rfl, .inl rfl⟩
    · unfold doneV
      split
      · rename_i h
        exact .inl ⟨rfl, h⟩
      · exact .inr ⟨rfl, rfl, .inl rfl⟩
theorem print_inj {a b : Int} {p q : Q4} (h : printQ a p = printQ b q) (hn : printQ a p ≠ []) : a = b ∧ p = q := by
  have ha : rightQ a p = 0 := by
    by_cases r : rightQ a p = 0
    · exact r
    · exact absurd (print_wrong r) hn
  have hb : rightQ b q = 0 := by
    by_cases r : rightQ b q = 0
    · exact r
    · rw [h] at hn; exact absurd (print_wrong r) hn
  have e1 := par_print ha
  have e2 := par_print hb
  rw [h, e2] at e1
  injection e1 with e1 e3
  exact ⟨e1.symm, e3.symm⟩
end Go.Proofs.YtaclidjhgpkmpaaDoor.My
set_option linter.unusedVariables false
set_option linter.unusedSimpArgs false
namespace Go.Proofs.YtaclidjhgpkmpaaDoor.My
open Go.RowKit
/-- Bytes put from a place on. -/
def putJ : List UInt8 → Nat → List UInt8 → List UInt8
  | l, _, [] => l
  | l, a, b :: r => putJ (l.set a b) (a + 1) r
theorem putJ_len : ∀ (x l : List UInt8) (a : Nat), (putJ l a x).length = l.length
  | [], _, _ => rfl
  | b :: r, l, a => by rw [putJ, putJ_len r, List.length_set]
theorem putJ_get : ∀ (x l : List UInt8) (a k : Nat), (putJ l a x).getD k 0 = if a ≤ k ∧ k < a + x.length ∧ k < l.length then x.getD (k - a) 0 else l.getD k 0
  | [], l, a, k => by rw [putJ, if_neg (by simp only [List.length_nil]; omega)]
  | b :: r, l, a, k => by
    rw [putJ, putJ_get r, List.length_set, getD_set, List.length_cons]
    by_cases h : a = k ∧ k < l.length
    · rw [if_neg (by omega), if_pos h, if_pos (by omega), show k - a = 0 by omega]
      rfl
    · rw [if_neg h]
      by_cases h2 : a + 1 ≤ k ∧ k < a + 1 + r.length ∧ k < l.length
      · rw [if_pos h2, if_pos (by omega), show k - a = (k - (a + 1)) + 1 by omega]
        rfl
      · rw [if_neg h2, if_neg (by omega)]
def four (v : Nat) : List UInt8 := [UInt8.ofNat v, UInt8.ofNat (v / 256), UInt8.ofNat (v / 65536), UInt8.ofNat (v / 16777216)]
theorem putV_four (l : List UInt8) (i v : Nat) : putV l i v 4 = putJ l i (four v) := by
  show ((((l.set (i + 0) (UInt8.ofNat (v / 256 ^ 0))).set (i + 1) (UInt8.ofNat (v / 256 ^ 1))).set (i + 2) (UInt8.ofNat (v / 256 ^ 2))).set (i + 3) (UInt8.ofNat (v / 256 ^ 3))) = ((((l.set i (UInt8.ofNat v)).set (i + 1) (UInt8.ofNat (v / 256))).set (i + 1 + 1) (UInt8.ofNat (v / 65536))).set (i + 1 + 1 + 1) (UInt8.ofNat (v / 16777216)))
  rw [show v / 256 ^ 0 = v by simp]
  rfl
theorem putJ_app : ∀ (x y l : List UInt8) (a : Nat), putJ l a (x ++ y) = putJ (putJ l a x) (a + x.length) y
  | [], y, l, a => rfl
  | b :: r, y, l, a => by
    rw [List.cons_append, putJ, putJ_app r, putJ, List.length_cons, show a + 1 + r.length = a + (r.length + 1) by omega]
theorem names_good : ∀ k : Fin 63, (namesL.getD k.val []) ≠ [] ∧ (∀ c ∈ namesL.getD k.val [], btw c.toNat = false ∧ c ≠ 59 ∧ 32 ≤ c.toNat ∧ c.toNat ≤ 126) ∧ hasC (namesL.getD k.val []) = false ∧ (namesL.getD k.val []).head? ≠ some 46 ∧ namesL.getD k.val [] ≠ wWord ∧ namesL.getD k.val [] ≠ wByte ∧ (namesL.getD k.val []).length ≤ 16 := by decide +kernel
theorem name_good {op : Int} (h1 : 1 ≤ op) (h2 : op ≤ 63) : nameV op ≠ [] ∧ (∀ c ∈ nameV op, btw c.toNat = false ∧ c ≠ 59 ∧ 32 ≤ c.toNat ∧ c.toNat ≤ 126) ∧ hasC (nameV op) = false ∧ (nameV op).head? ≠ some 46 ∧ nameV op ≠ wWord ∧ nameV op ≠ wByte ∧ (nameV op).length ≤ 16 := by
  obtain ⟨k, rfl⟩ : ∃ k : Nat, op = (k : Int) + 1 := ⟨(op - 1).toNat, by omega⟩
  have hk : k < 63 := by omega
  rw [name_at hk]
  exact names_good ⟨k, hk⟩
theorem btw_no2 {c : Nat} (h1 : c ≠ 32) (h2 : c ≠ 9) (h3 : c ≠ 44) : btw c = false := by
  unfold btw
  rw [beq_eq_false_iff_ne.2 h1, beq_eq_false_iff_ne.2 h2, beq_eq_false_iff_ne.2 h3]
  rfl
theorem part_chars (v : Int → Int) (f : UInt8) : ∀ c ∈ partW v f, c.toNat = 114 ∨ c.toNat = 45 ∨ (48 ≤ c.toNat ∧ c.toNat ≤ 57) := by
  intro c hc
  unfold partW at hc
  have key : ∀ n, c ∈ decL n → c.toNat = 114 ∨ c.toNat = 45 ∨ (48 ≤ c.toNat ∧ c.toNat ≤ 57) := fun n h => by
    rcases dec_bytes n c h with h | h
    · subst h; exact .inr (.inl rfl)
    · exact .inr (.inr h)
  split at hc
  · exact key _ hc
  · rcases List.mem_cons.1 hc with h | h
    · subst h; exact .inl rfl
    · exact key _ h
theorem decL_pos (n : Int) : decL n ≠ [] := by
  unfold decL
  split
  · simp
  · intro q
    have := digP_pos n.natAbs
    rw [q] at this
    cases this
theorem part_word (v : Int → Int) (f : UInt8) : wordly (partW v f) := by
  refine ⟨?_, fun c hc => ?_⟩
  · unfold partW
    split
    · exact decL_pos _
    · simp
  · have := part_chars v f c hc
    exact btw_no2 (by omega) (by omega) (by omega)
/-- A printed instruction's line. -/
def lineI (g : Int × Q4) : List UInt8 := 9 :: printQ g.1 g.2
def partsI (g : Int × Q4) : List (List UInt8) := (fieldsV (formV g.1)).map (partW g.2.at)
theorem lineI_eq {g : Int × Q4} (h : rightQ g.1 g.2 = 0) : lineI g = [9] ++ lineT (nameV g.1) (partsI g) := by
  unfold lineI
  rw [print_right h]
  unfold lineT partsI
  by_cases hf : fieldsV (formV g.1) = []
  · rw [if_pos hf, hf]
    rfl
  · rw [if_neg hf, if_neg (by simpa using hf)]
    rfl
theorem lineI_words {g : Int × Q4} (h : rightQ g.1 g.2 = 0) : wordsP (codeL (lineI g)) = nameV g.1 :: partsI g := by
  obtain ⟨h1, h2, h3⟩ := right_range h
  obtain ⟨n1, n2, -⟩ := name_good h1 h2
  have hw : ∀ x ∈ partsI g, wordly x := fun x hx => by
    obtain ⟨f, _, rfl⟩ := List.mem_map.1 hx
    exact part_word _ f
  have hnw : wordly (nameV g.1) := ⟨n1, fun c hc => (n2 c hc).1⟩
  have hc : (59 : UInt8) ∉ lineI g := by
    rw [lineI_eq h]
    intro q
    rcases List.mem_append.1 q with q | q
    · revert q; decide
    · unfold lineT at q
      split at q
      · exact (n2 _ q).2.1 rfl
      · rcases List.mem_append.1 q with q | q
        · exact (n2 _ q).2.1 rfl
        · rcases List.mem_cons.1 q with q | q
          · revert q; decide
          · have key : ∀ (ls : List (List UInt8)), (∀ x ∈ ls, (59 : UInt8) ∉ x) → (59 : UInt8) ∉ Lib.join ls [44, 32] := by
              intro ls
              induction ls with
              | nil => intro _ q; cases q
              | cons x r ih =>
                intro hx
                cases r with
                | nil => simpa [Lib.join] using hx x (by simp)
                | cons y t =>
                  rw [joinP_cons]
                  intro q
                  rcases List.mem_append.1 q with q | q
                  · exact hx x (by simp) q
                  · rcases List.mem_cons.1 q with q | q
                    · revert q; decide
                    · rcases List.mem_cons.1 q with q | q
                      · revert q; decide
                      · exact ih (fun z hz => hx z (by simp [hz])) q
            exact key _ (fun x hx q2 => by
              obtain ⟨f, _, rfl⟩ := List.mem_map.1 hx
              have := part_chars _ f _ q2
              have e : (59 : UInt8).toNat = 59 := rfl
              omega) q
  rw [code_no hc, wordsP_eq, lineI_eq h, wordsT_gap [9] _ (by decide)]
  unfold lineT
  cases hp : partsI g with
  | nil => rw [if_pos (show ([] : List (List UInt8)).length = 0 from rfl)]; exact wordsT_end hnw.1 hnw.2
  | cons x r =>
    rw [if_neg (by simp)]
    have e : nameV g.1 ++ 32 :: Lib.join (x :: r) [44, 32] = nameV g.1 ++ [32] ++ Lib.join (x :: r) [44, 32] := by simp
    rw [e, wordsT_one _ _ _ hnw.1 hnw.2 (by simp) (by decide), wordsT_join [44, 32] (by simp) (by decide) x r (by rw [← hp]; exact hw)]
def rowsI (h : Nat) : List (Int × Q4) → List (List (List UInt8) × Nat)
  | [] => []
  | g :: r => (nameV g.1 :: partsI g, h) :: rowsI (h + 4) r
theorem first_I : ∀ (G : List (Int × Q4)) (p : Prg) (i : Nat), (∀ g ∈ G, rightQ g.1 g.2 = 0) → p.laid.length = 16384 → p.here % 4 = 0 → p.here + 4 * G.length ≤ 16384 → (∀ k, p.here ≤ k → p.laid.getD k false = false) →
    ∃ l, (∀ k, l.getD k false = if p.here ≤ k ∧ k < p.here + 4 * G.length then true else p.laid.getD k false) ∧ firstA p (G.map lineI) i = ((0, 0), { p with rows := p.rows ++ rowsI p.here G, here := p.here + 4 * G.length, laid := l })
  | [], p, i, _, _, _, _, _ => ⟨p.laid, (fun k => by rw [if_neg (by simp only [List.length_nil]; omega)]), by
    show ((0, 0), p) = _
    unfold rowsI
    rw [List.append_nil]
    rfl⟩
  | g :: r, p, i, hr, hl, h4, hb, h0 => by
    have hg := hr g (by simp)
    obtain ⟨h1, h2, h3⟩ := right_range hg
    obtain ⟨n1, n2, n3, n4, n5, n6, n7⟩ := name_good h1 h2
    rw [List.length_cons] at hb
    have e1 : firstV p (lineI g) = (0, { p with rows := p.rows ++ [(nameV g.1 :: partsI g, p.here)], laid := setR p.laid p.here 4, here := p.here + 4 }) := by
      unfold firstV
      rw [lineI_words hg, firstW_do _ _ n3, doV_ins _ _ n4]
      refine (lay_ok ?_ ?_ ?_).trans ?_
      · exact fun _ => h4
      · show p.here + 4 ≤ 16384
        omega
      · exact fun k k1 _ => h0 k k1
      · rfl
    obtain ⟨l, l1, l2⟩ := first_I r { p with rows := p.rows ++ [(nameV g.1 :: partsI g, p.here)], laid := setR p.laid p.here 4, here := p.here + 4 } (i + 1) (fun x hx => hr x (by simp [hx])) (by show (setR p.laid p.here 4).length = _; rw [setR_len, hl]) (by show (p.here + 4) % 4 = 0; omega) (by show p.here + 4 + 4 * r.length ≤ 16384; omega) (fun k hk => by
      have hk2 : p.here + 4 ≤ k := hk
      show (setR p.laid p.here 4).getD k false = false
      rw [setR_get, if_neg (by omega)]
      exact h0 k (by omega))
    refine ⟨l, fun k => ?_, ?_⟩
    · have := l1 k
      simp only at this
      rw [this, setR_get, hl, List.length_cons]
      by_cases q : p.here + 4 ≤ k ∧ k < p.here + 4 + 4 * r.length
      · rw [if_pos q, if_pos (by omega)]
      · rw [if_neg q]
        by_cases q2 : p.here ≤ k ∧ k < p.here + 4 ∧ k < 16384
        · rw [if_pos q2, if_pos (by omega)]
        · rw [if_neg q2, if_neg (by omega)]
    · rw [List.map_cons, firstA_cons, e1, if_pos rfl]
      refine l2.trans ?_
      show ((0, 0), Prg.mk (p.rows ++ [(nameV g.1 :: partsI g, p.here)] ++ rowsI (p.here + 4) r) p.names p.vals (p.here + 4 + 4 * r.length) p.data l) = _
      rw [List.append_assoc, List.length_cons, show p.here + 4 * (r.length + 1) = p.here + 4 + 4 * r.length by omega]
      rfl
theorem imm_last {F : Int} (h : immF F = true) : ∃ ini : List UInt8, fieldsV F = ini ++ [105] ∧ ∀ c ∈ ini, c ≠ 105 := by
  rcases imm_cases h with rfl | rfl | rfl | rfl | rfl | rfl
  · exact ⟨[100, 97], rfl, by decide⟩
  · exact ⟨[97, 98], rfl, by decide⟩
  · exact ⟨[97, 98], rfl, by decide⟩
  · exact ⟨[100], rfl, by decide⟩
  · exact ⟨[100], rfl, by decide⟩
  · exact ⟨[97], rfl, by decide⟩
theorem part_reg (v : Int → Int) {c : UInt8} (h : c ≠ 105) : isPart (partW v c) = false := by
  unfold partW
  rw [if_neg h]
  unfold isPart
  rw [beq_eq_false_iff_ne.2 (fun q => by injection q with q _; revert q; decide), beq_eq_false_iff_ne.2 (fun q => by injection q with q _; revert q; decide)]
  rfl
theorem lastF_I (p : Prg) {g : Int × Q4} (h : rightQ g.1 g.2 = 0) (i : Nat) : lastF p g.1 (partsI g) i = (0, partsI g) := by
  by_cases hi : immF (formV g.1) = true
  · obtain ⟨ini, hf, hn⟩ := imm_last hi
    have hb := i64_at h 105
    have e : partsI g = ini.map (partW g.2.at) ++ [decL (g.2.at 105)] := by
      unfold partsI
      rw [hf, List.map_append]
      rfl
    rw [e, lastF_app p g.1 _ _ i hi]
    unfold lastV
    have hnp : ¬ (ini.map (partW g.2.at) ≠ [] ∧ isPart ((ini.map (partW g.2.at)).getLastD []) = true) := by
      rintro ⟨q1, q2⟩
      rcases List.eq_nil_or_concat ini with q | ⟨a, b, q⟩
      · rw [q] at q1; exact q1 rfl
      · (try rw [List.concat_eq_append] at q)
        rw [q, List.map_append, List.map_cons, List.map_nil, List.getLastD_concat] at q2
        rw [part_reg _ (hn b (by rw [q]; simp))] at q2
        cases q2
    rw [if_neg hnp, parse_decL _ hb.1 hb.2, if_neg (show ¬ ((0 : Int) = 3) by decide), if_neg (fun q => q rfl)]
  · exact lastF_no p g.1 _ i (by simpa using hi)
def wordG (g : Int × Q4) : Nat := encW g.1 g.2.rd g.2.ra g.2.rb g.2.im
theorem second_I (p : Prg) : ∀ (G : List (Int × Q4)) (h i : Nat) (d : List UInt8), (∀ g ∈ G, rightQ g.1 g.2 = 0) → secondA p (rowsI h G) i d = ((0, 0), putJ d h (G.map fun g => four (wordG g)).flatten)
  | [], _, _, _, _ => rfl
  | g :: r, h, i, d, hr => by
    have hg := hr g (by simp)
    obtain ⟨h1, h2, h3⟩ := right_range hg
    obtain ⟨n1, n2, n3, n4, n5, n6, n7⟩ := name_good h1 h2
    obtain ⟨o1, o2, o3⟩ := name_op h1 h2
    have hl : lineT (nameV g.1) (partsI g) = printQ g.1 g.2 := by
      have := lineI_eq hg
      unfold lineI at this
      exact (List.cons.inj this).2.symm
    have e1 : secondV p (nameV g.1 :: partsI g) h d = (0, putV d h (wordG g) 4) := by
      rw [secondV_cons, if_neg n5, if_neg n6, if_neg n4]
      unfold instrV
      rw [if_neg (fun q => by rw [q] at o1; have e : ((0 : Nat) : Int) = 0 := rfl; rw [e] at o1; omega), o1, lastF_I p hg, if_neg (fun q => q rfl)]
      unfold parE
      have hE : encV g.1 g.2.rd g.2.ra g.2.rb g.2.im = (0, wordG g) := by
        unfold encV
        rw [show rightI g.1 g.2.rd g.2.ra g.2.rb g.2.im = 0 from hg]
        rfl
      simp only [hl, par_print hg, hE]
      rfl
    rw [rowsI, secondA_two, e1, if_pos rfl, putV_four, second_I p r (h + 4) (i + 1) _ (fun x hx => hr x (by simp [hx])), List.map_cons, List.flatten_cons, putJ_app]
    rfl
theorem four_len (G : List (Int × Q4)) : ((G.map fun g => four (wordG g)).flatten).length = 4 * G.length := by
  induction G with
  | nil => rfl
  | cons g r ih =>
    rw [List.map_cons, List.flatten_cons, List.length_append, ih, List.length_cons]
    show 4 + _ = _
    omega
/-- What instructions lay. -/
def datI (G : List (Int × Q4)) : List SegV := if G = [] then [] else [⟨0, (G.map fun g => four (wordG g)).flatten⟩]
theorem insts_all (G : List (Int × Q4)) (h : ∀ g ∈ G, rightQ g.1 g.2 = 0) (hn : G.length ≤ 60) (hl : (linesV (bs (joinN (G.map lineI)))).2 = 0 ∧ linesP (joinN (G.map lineI)) = G.map lineI) : assembleV (joinN (G.map lineI)) = ⟨0, 0, (0, datI G), []⟩ := by
  obtain ⟨l, l1, l2⟩ := first_I G p00 0 h laid00_len rfl (by show 0 + _ ≤ _; omega) (fun k _ => laid00 k)
  unfold assembleV
  rw [if_pos hl.1, hl.2]
  unfold asmL
  rw [l2]
  unfold asmP
  rw [if_pos rfl]
  show doneA _ (secondA _ ([] ++ rowsI 0 G) 0 p00.data) = _
  rw [List.nil_append, second_I _ G 0 0 p00.data h]
  unfold doneA
  rw [if_pos rfl]
  have hs : segsTo l (putJ p00.data 0 (G.map fun g => four (wordG g)).flatten) 16384 = datI G := segs_all (by
    have hk : ∀ k, l.getD k false = if k < 4 * G.length then true else false := fun k => by
      rw [l1 k, laid00]
      show (if 0 ≤ k ∧ k < 0 + 4 * G.length then true else false) = _
      by_cases q : k < 4 * G.length
      · rw [if_pos (by omega), if_pos q]
      · rw [if_neg (by omega), if_neg q]
    unfold datI
    by_cases hG : G = []
    · rw [if_pos hG]
      intro k _ _
      rw [hk, hG, if_neg (by simp)]
    · rw [if_neg hG]
      have hpos : 0 < G.length := List.length_pos_iff.2 hG
      refine ⟨Nat.le_refl _, ?_, (fun k _ q => by cases q), (fun j hj => ⟨?_, ?_⟩), ?_, (fun t ht => by cases ht), (fun k q _ => ?_)⟩
      · intro q
        have := four_len G
        have q2 := congrArg List.length q
        rw [this] at q2
        have q3 : 4 * G.length = 0 := q2
        omega
      · have hj2 : j < ((G.map fun g => four (wordG g)).flatten).length := hj
        rw [four_len] at hj2
        show l.getD (0 + j) false = true
        rw [hk, if_pos (by omega)]
      · have hj2 : j < ((G.map fun g => four (wordG g)).flatten).length := hj
        show (putJ p00.data 0 _).getD (0 + j) 0 = _
        rw [putJ_get, data00_len, if_pos ⟨by omega, by omega, by rw [four_len] at hj2; omega⟩, show 0 + j - 0 = j by omega]
      · show 0 + ((G.map fun g => four (wordG g)).flatten).length ≤ _
        rw [four_len]
        omega
      · have q2 : 0 + ((G.map fun g => four (wordG g)).flatten).length ≤ k := q
        rw [four_len] at q2
        rw [hk, if_neg (by omega)])
  show AsmV.mk 0 0 (startV none (segsTo l (putJ p00.data 0 _) 16384), segsTo l (putJ p00.data 0 _) 16384) [] = _
  rw [hs]
  unfold datI
  by_cases hG : G = []
  · rw [if_pos hG]; rfl
  · rw [if_neg hG]; rfl
theorem print_chars {op : Int} {q : Q4} (h : rightQ op q = 0) : (∀ c ∈ printQ op q, 32 ≤ c.toNat ∧ c.toNat ≤ 126) ∧ (printQ op q).length ≤ 120 := by
  obtain ⟨h1, h2, h3⟩ := right_range h
  obtain ⟨n1, n2, n3, n4, n5, n6, n7⟩ := name_good h1 h2
  rw [print_right h]
  have hp : ∀ c ∈ Lib.join ((fieldsV (formV op)).map (partW q.at)) [44, 32], 32 ≤ c.toNat ∧ c.toNat ≤ 126 := by
    have key : ∀ ls : List (List UInt8), (∀ x ∈ ls, ∀ c ∈ x, 32 ≤ c.toNat ∧ c.toNat ≤ 126) → ∀ c ∈ Lib.join ls [44, 32], 32 ≤ c.toNat ∧ c.toNat ≤ 126 := by
      intro ls
      induction ls with
      | nil => intro _ c hc; cases hc
      | cons x r ih =>
        intro hx
        cases r with
        | nil => simpa [Lib.join] using hx x (by simp)
        | cons y t =>
          rw [joinP_cons]
          intro c hc
          rcases List.mem_append.1 hc with q | q
          · exact hx x (by simp) c q
          · rcases List.mem_cons.1 q with q | q
            · subst q; decide
            · rcases List.mem_cons.1 q with q | q
              · subst q; decide
              · exact ih (fun z hz => hx z (by simp [hz])) c q
    refine key _ (fun x hx c hc => ?_)
    obtain ⟨f, _, rfl⟩ := List.mem_map.1 hx
    have := part_chars _ f c hc
    omega
  have ht : tot ((fieldsV (formV op)).map (partW q.at)) ≤ 80 := by
    have hb := i64_at h
    have hpl : ∀ f, (partW q.at f).length ≤ 21 := fun f => by
      have := decL_len (q.at (f.toNat : Int)) (hb _).1 (hb _).2
      unfold partW
      split
      · omega
      · rw [List.length_cons]; omega
    have hfl : (fieldsV (formV op)).length ≤ 3 := by
      unfold fieldsV
      repeat' split
      all_goals decide
    have key : ∀ ls : List UInt8, tot (ls.map (partW q.at)) ≤ 23 * ls.length := by
      intro ls
      induction ls with
      | nil => exact Nat.zero_le _
      | cons f r ih =>
        rw [List.map_cons, tot_cons, List.length_cons]
        have := hpl f
        omega
    have := key (fieldsV (formV op))
    omega
  have hj := join_tot ((fieldsV (formV op)).map (partW q.at))
  by_cases hf : fieldsV (formV op) = []
  · rw [if_pos hf]
    exact ⟨fun c hc => (n2 c hc).2.2, by omega⟩
  · rw [if_neg hf]
    refine ⟨fun c hc => ?_, by rw [List.length_append, List.length_cons]; omega⟩
    rcases List.mem_append.1 hc with k | k
    · exact (n2 c k).2.2
    · rcases List.mem_cons.1 k with k | k
      · subst k; decide
      · exact hp c k
theorem linesI_ok (G : List (Int × Q4)) (h : ∀ g ∈ G, rightQ g.1 g.2 = 0) (hn : G.length ≤ 60) : ((linesV (bs (joinN (G.map lineI)))).2 = 0 ∧ linesP (joinN (G.map lineI)) = G.map lineI) ∧ (∀ l ∈ G.map lineI, l.length ≤ 10000) ∧ (joinN (G.map lineI)).length ≤ 130 * G.length := by
  have hl : ∀ l ∈ G.map lineI, l.length ≤ 121 := fun l hl => by
    obtain ⟨g, hg, rfl⟩ := List.mem_map.1 hl
    have := (print_chars (h g hg)).2
    unfold lineI
    rw [List.length_cons]
    omega
  have hj : ∀ ls : List (List UInt8), (∀ l ∈ ls, l.length ≤ 121) → (joinN ls).length ≤ 130 * ls.length := by
    intro ls
    induction ls with
    | nil => intro _; exact Nat.zero_le _
    | cons x r ih =>
      intro hx
      have h1 := hx x (by simp)
      have h2 := ih (fun l hl => hx l (by simp [hl]))
      rw [joinN_cons, List.length_append, List.length_append, show (x :: r).length = r.length + 1 from rfl]
      show x.length + 1 + _ ≤ _
      omega
  have hj2 := hj _ hl
  rw [List.length_map] at hj2
  refine ⟨lines_join _ (fun x hx c hc => ?_) (by rw [List.length_map]; omega) (by omega), fun l k => by have := hl l k; omega, hj2⟩
  obtain ⟨g, hg, rfl⟩ := List.mem_map.1 hx
  unfold lineI at hc
  rcases List.mem_cons.1 hc with k | k
  · subst k; exact .inr rfl
  · exact .inl ((print_chars (h g hg)).1 c k)
end Go.Proofs.YtaclidjhgpkmpaaDoor.My
set_option linter.unusedSimpArgs false
set_option linter.unusedVariables false
namespace Go.Proofs.YtaclidjhgpkmpaaDoor.My
open Go.RowKit
theorem sizeIn5 (w : World) : (sizeOf 30).run Tryd.prog w = .ok 5 w := by kernel_rfl
theorem infoU3 : (Tryd.prog.info? 25).map (fun i => (i.zero, i.size, i.bytes)) = some (some (.int .u32 0), 1, 4) := by kernel_rfl
abbrev gdI (g : Int × Q4) : Bool := decide (rightQ g.1 g.2 = 0)
/-- Instructions of an argument. -/
def RdIn (w : World) (A : Option Addr) (gs : List (Int × Q4)) : Prop := RwA w A 5 gs.length (gs.map fun g => insQ g.1 g.2) ∧ ∀ g ∈ gs, g.2.ok
theorem insQ_get {gs : List (Int × Q4)} {k : Nat} {g : Int × Q4} (h : gs[k]? = some g) : (gs.map fun g => insQ g.1 g.2)[k]? = some (insQ g.1 g.2) := by simp [h]
theorem good_at {gs : List (Int × Q4)} {k : Nat} {g : Int × Q4} (h : gs[k]? = some g) : (gs.drop k).filter gdI = if rightQ g.1 g.2 = 0 then g :: (gs.drop (k + 1)).filter gdI else (gs.drop (k + 1)).filter gdI := by
  rw [drop_cons h, List.filter_cons]
  by_cases q : rightQ g.1 g.2 = 0
  · rw [if_pos q, if_pos (by simpa using q)]
  · rw [if_neg q, if_neg (by simpa using q)]
theorem sizeU32 (w : World) : (sizeOf 25).run Tryd.prog w = .ok 1 w := by kernel_rfl
/-- What the last loops read. -/
structure EndF (w : World) (gJ gs c9 gd dn cd gw : Nat) (D : List UInt8) (P : List (Int × Q4)) : Prop where
  j1 : w.cell? ⟨gJ, 1, none⟩ = some (.slice (some ⟨gs, 0, none⟩) 1 c9)
  k1 : w.cell? ⟨gs, 1, none⟩ = some (.slice (some ⟨gd, 0, none⟩) dn cd)
  d : ∀ (t : Nat) (b : UInt8), D[t]? = some b → w.cell? ⟨gd, t, none⟩ = some (.int .u8 (b.toNat : Int))
  w_ : ∀ (t W : Nat), (P[t]?).map wordG = some W → w.cell? ⟨gw, t, none⟩ = some (.int .u32 (W : Nat))
theorem EndF.drew {w : World} {gJ gs c9 gd dn cd gw : Nat} {D : List UInt8} {P : List (Int × Q4)} (h : EndF w gJ gs c9 gd dn cd gw D P) : EndF w.drew gJ gs c9 gd dn cd gw D P := ⟨h.j1, h.k1, h.d, h.w_⟩
theorem dat_at : ∀ (P : List (Int × Q4)) (i W j : Nat), (P[i]?).map wordG = some W → j < 4 → ((P.map fun g => four (wordG g)).flatten)[4 * i + j]? = some (UInt8.ofNat (W / 256 ^ j))
  | [], i, W, j, h, _ => by simp at h
  | g :: r, 0, W, j, h, hj => by
    have e : wordG g = W := by simpa using h
    have h9 : j = 0 ∨ j = 1 ∨ j = 2 ∨ j = 3 := by omega
    rw [List.map_cons, List.flatten_cons, e]
    rcases h9 with rfl | rfl | rfl | rfl
    · simp [four]
    · simp [four]
    · simp [four]
    · simp [four]
  | g :: r, i + 1, W, j, h, hj => by
    rw [List.map_cons, List.flatten_cons, List.getElem?_append_right (by show 4 ≤ _; omega)]
    have := dat_at r i W j (by simpa using h) hj
    rw [← this]
    show _[4 * (i + 1) + j - 4]? = _
    congr 1
    omega
theorem wordG_lt (g : Int × Q4) (h : rightQ g.1 g.2 = 0) : wordG g < 4294967296 := by
  have h1 := enc_code g.1 g.2.rd g.2.ra g.2.rb g.2.im
  unfold encV at h1
  simp only at h1
  rw [if_pos (show rightI g.1 g.2.rd g.2.ra g.2.rb g.2.im = 0 from h)] at h1
  exact h1
set_option maxRecDepth 100000 in
set_option maxHeartbeats 8000000 in
theorem asmInsts_any (c : Nat) (A : Option Addr) (gs : List (Int × Q4)) (m : Int) (w : World) (hS : St m w) (hx : RdIn w A gs) (hm : gs.length ≤ 9223372036854775807) :
    Calls Tryd.prog 3 #[.slice A gs.length c] w fun e w' => e = .returned (.bool true) ∧ Below w.heap.size w w' := by
  have HB := startB w
  have HS := Lib.hid hS
  have HX := Lib.hid hx
  obtain ⟨n, hn⟩ : ∃ n, gs.length = n := ⟨_, rfl⟩
  have HN := Lib.hid hn
  rw [hn] at hm ⊢
  clear hS hx hn
  by_cases h60 : 60 < n
  · go_enter Tryd.func3, Tryd.ntmps3
    go_wp2_with (go_at_call 6; refine (awake_any m _ (St.below HS HB)).mono ?_; rintro e wz ⟨rfl, hb⟩; replace HB := keepB HB hb; clear hb)
    go_ret
    exact ⟨rfl, HB.out.1⟩
  obtain ⟨G, hG⟩ : ∃ G, gs.filter gdI = G := ⟨_, rfl⟩
  have HGR : Hid (∀ g ∈ G, rightQ g.1 g.2 = 0) := Lib.hid (fun g hg => by
    rw [← hG] at hg
    have := (List.mem_filter.1 hg).2
    simpa using this)
  have HG0 : Hid ([] ++ (gs.drop 0).filter gdI = G) := Lib.hid hG
  have HGL : Hid (G.length ≤ n) := Lib.hid (by rw [← hG, ← HN.out]; exact List.length_filter_le _ _)
  clear hG
  go_enter Tryd.func3, Tryd.ntmps3
  go_wp2_with (refine wlLit (by rfl) 24 0 _ rfl #[] 25 (fun _ => by kernel_rfl) ?_; intro gW w1 hg1 hg2 ha hb; have HO : Hid (w1.ownsRow w.heap.size 25 1 (.slice (some ⟨gW, 0, none⟩) 0 0) 0 []) := Lib.hid ⟨rfl, .inr ⟨gW, 0, #[], rfl, hg1, ha, Nat.le_refl _, Nat.zero_le _, rfl, rfl⟩⟩; replace HB := keepB HB hb; clear ha hb hg1 hg2)
  go_loopg [3, 4, 5] n (fun gk s v i wr => ∃ (k pn : Nat) (P : List (Int × Q4)) (src : List UInt8) (Av : Option Addr) (cv : Nat), s = .string (bs src) ∧ v = .slice Av pn cv ∧ i = .int .i64 (k : Nat) ∧ k + gk = n ∧ pn ≤ k ∧ Hid (P.length = pn) ∧ Hid (joinN (P.map lineI) = src) ∧ Hid (P ++ (gs.drop k).filter gdI = G) ∧ Hid (wr.ownsRow w.heap.size 25 1 (.slice Av pn cv) pn (P.map fun g => Value.int .u32 (wordG g : Nat))) ∧ Hid (Below w.heap.size w wr ∧ w.heap.size ≤ wr.heap.size))
  case atStart => exact ⟨0, 0, [], [], _, _, rfl, rfl, rfl, by omega, by omega, Lib.hid rfl, Lib.hid rfl, HG0, HO, HB⟩
  case round =>
    clear HG0 HO HB
    obtain ⟨k, pn, P, src, Av, cv, rfl, rfl, rfl, hk, hpn, HPN, HSRC, HG, HO, HB⟩ := hrel
    have HK := Lib.hid hk
    have hP : ∀ g ∈ P, rightQ g.1 g.2 = 0 := fun g hg => HGR.out g (by rw [← HG.out]; simp [hg])
    have hpn60 : pn ≤ 60 := by omega
    have hlI := linesI_ok P hP (by rw [HPN.out]; exact hpn60)
    have hsl : src.length ≤ 130 * pn := by rw [← HSRC.out, ← HPN.out]; exact hlI.2.2
    have HPK := Lib.hid hpn
    have HLI := Lib.hid hlI
    have HSL := Lib.hid hsl
    clear hk hP hlI hpn hsl
    by_cases hlt : k < n
    · obtain ⟨⟨op, q⟩, hg⟩ : ∃ x, gs[k]? = some x := ⟨_, List.getElem?_eq_getElem (by rw [HN.out]; exact hlt)⟩
      obtain ⟨b, off, rfl, -, -⟩ := HX.out.1.2.2 (by rw [HN.out]; omega)
      have hrg := RwA.at_ HX.out.1 (by rw [HN.out]; omega) (insQ_get hg)
      have hqok := HX.out.2 _ (List.mem_of_getElem? hg)
      have HRG := Lib.hid hrg
      have hga := good_at hg
      obtain ⟨⟨E, W⟩, hE⟩ : ∃ z, encV op q.rd q.ra q.rb q.im = z := ⟨_, rfl⟩
      have HEN : Hid (∀ w', St m w' → Calls Tryd.prog 7 #[.agg (insQ op q)] w' fun e w'' => e = .returned (.tuple #[.int .u32 (W : Nat), .int .i64 (E : Nat)]) ∧ Below w'.heap.size w' w'') := Lib.hid (fun w' h => by
        have := enc_any op q.rd q.ra q.rb q.im w' h.2.1
        rw [hE] at this
        exact this)
      have hE1 : E = rightQ op q := (congrArg Prod.fst hE).symm
      by_cases h0 : rightQ op q = 0
      · have hW : W = wordG (op, q) := by
          have := (congrArg Prod.snd hE).symm
          unfold encV at this
          simp only at this
          rw [if_pos (show rightI op q.rd q.ra q.rb q.im = 0 from h0)] at this
          exact this
        rw [if_pos h0] at hga
        rw [h0] at hE1
        subst hE1
        have hHG := HG.out
        rw [hga] at hHG
        obtain ⟨px, hpx⟩ : ∃ x, printQ op q = x := ⟨_, rfl⟩
        have hpl := (print_chars h0).2
        rw [hpx] at hpl
        obtain ⟨q1, hq1⟩ : ∃ x, src ++ [9] = x := ⟨_, rfl⟩
        have hl1 := congrArg List.length hq1
        rw [List.length_append] at hl1
        replace hl1 : src.length + 1 = q1.length := hl1
        obtain ⟨q2, hq2⟩ : ∃ x, q1 ++ px = x := ⟨_, rfl⟩
        have hl2 := congrArg List.length hq2
        rw [List.length_append] at hl2
        obtain ⟨q3, hq3⟩ : ∃ x, q2 ++ [10] = x := ⟨_, rfl⟩
        have HQ1 := Lib.hid hq1
        have HQ2 := Lib.hid hq2
        have HQ3 := Lib.hid hq3
        have HPX := Lib.hid hpx
        have hsl := HSL.out
        have hsl9 : src.length ≤ 60000 := by omega
        have hq1l : q1.length ≤ 60001 := by omega
        have hq2l : q2.length ≤ 60200 := by omega
        have HQ3F : Hid (joinN ((P ++ [(op, q)]).map lineI) = q3) := Lib.hid (by
          rw [List.map_append, joinN_app, HSRC.out, List.map_cons, List.map_nil, joinN_cons, ← hq3, ← hq2, ← hq1, ← hpx]
          simp [lineI, joinN])
        have HG2 : Hid ((P ++ [(op, q)]) ++ (gs.drop (k + 1)).filter gdI = G) := Lib.hid (by rw [← hHG]; simp)
        have HW := Lib.hid hW
        clear hg hrg hga hE h0 hW hHG hpx hq1 hl1 hq2 hl2 hq3 hsl HG HSRC
        go_upto_region 9 with (first | (refine wlIdx (by rfl) 22 _ _ rfl 30 5 Tryd.underlying22 sizeIn5 b off n c k rfl rfl hlt ?_) | (refine partLoad (by rfl) 30 _ rfl b (off + k * 5) rfl (cs := insQ op q) (range_below HRG.out HB.out.1) Tryd.underlying30 rfl infoIn ?_) | (go_at_call 7; refine (HEN.out _ (St.below HS HB)).mono ?_; rintro e w2 ⟨rfl, hb⟩; replace HB := keepB HB hb; replace HO := Lib.hid (ownk_below HO.out hb); clear hb))
        go_upto_region 10 with fail
        go_upto_region 11 with (first | (refine wlLit (by rfl) 24 1 _ rfl #[.int .u32 (W : Nat)] 25 (fun _ => by kernel_rfl) ?_; intro gN w3 hg1 hg2 ha hb; replace HB := keepB HB hb; replace HO := Lib.hid (ownk_below HO.out hb); have HLT := Lib.hid ha; clear ha hb hg1 hg2) | (refine appRow rfl _ _ 24 25 (.int .u32 0) 1 4 rfl Tryd.underlying24 infoU3 rfl (by decide) w.heap.size _ pn _ rfl HO.out #[.int .u32 (W : Nat)] rfl (by simp [Value.oneCell']) gN 1 rfl HLT.out (by unfold maxLen; omega) (by omega) HB.out.2 ?_; intro v2 w4 h1 h2 h3; obtain ⟨A2, c2, rfl⟩ := own_valk h1; replace HB := keepBw HB h2 (fun j hj => (own_type HO.out hj).1); replace HO := Lib.hid h1; clear h1 h2 h3))
        go_wp2_with (first | (refine strAdd (by rfl) _ _ _ _ rfl (bs src) ⟨#[9]⟩ (bs q1) rfl rfl (by rw [bs_size]; show src.length + 1 ≤ _; omega) (by rw [← HQ1.out]; exact bs_add _ _) ?_) | (refine wlIdx (by rfl) 22 _ _ rfl 30 5 Tryd.underlying22 sizeIn5 b off n c k rfl rfl hlt ?_) | (refine partLoad (by rfl) 30 _ rfl b (off + k * 5) rfl (cs := insQ op q) (range_below HRG.out HB.out.1) Tryd.underlying30 rfl infoIn ?_) | (go_at_call 8; refine (printq_any op q _ hqok (St.below HS HB).2.2 (St.below HS HB).2.1).mono ?_; rw [HPX.out]; rintro e w5 ⟨rfl, hb⟩; replace HB := keepB HB hb; replace HO := Lib.hid (ownk_below HO.out hb); clear hb) | (refine strAdd (by rfl) _ _ _ _ rfl (bs q1) (bs px) (bs q2) rfl rfl (by rw [bs_size, bs_size]; omega) (by rw [← HQ2.out]; exact bs_add _ _) ?_) | (refine strAdd (by rfl) _ _ _ _ rfl (bs q2) ⟨#[10]⟩ (bs q3) rfl rfl (by rw [bs_size]; show q2.length + 1 ≤ _; omega) (by rw [← HQ3.out]; exact bs_add _ _) ?_))
        go_roundg (gk - 1)
        case measure => have := HK.out; omega
        case rel => exact ⟨k + 1, pn + 1, P ++ [(op, q)], q3, A2, c2, rfl, rfl, rfl, by have := HK.out; omega, by have := HPK.out; omega, Lib.hid (by rw [List.length_append, HPN.out]; rfl), HQ3F, HG2, Lib.hid (by rw [List.map_append, List.map_cons, List.map_nil, ← HW.out]; exact HO.out), HB⟩
      · rw [if_neg h0] at hga
        have HG2 : Hid (P ++ (gs.drop (k + 1)).filter gdI = G) := Lib.hid (by rw [← hga]; exact HG.out)
        have z1 : ((E : Int) == 0) = false := beq_eq_false_iff_ne.2 (by omega)
        clear hg hrg hga hE h0 HG hE1
        go_wp2_with (first | (refine wlIdx (by rfl) 22 _ _ rfl 30 5 Tryd.underlying22 sizeIn5 b off n c k rfl rfl hlt ?_) | (refine partLoad (by rfl) 30 _ rfl b (off + k * 5) rfl (cs := insQ op q) (range_below HRG.out HB.out.1) Tryd.underlying30 rfl infoIn ?_) | (go_at_call 7; refine (HEN.out _ (St.below HS HB)).mono ?_; rintro e w2 ⟨rfl, hb⟩; replace HB := keepB HB hb; replace HO := Lib.hid (ownk_below HO.out hb); clear hb))
        go_roundg (gk - 1)
        case measure => have := HK.out; omega
        case rel => exact ⟨k + 1, pn, P, src, Av, cv, rfl, rfl, rfl, by have := HK.out; omega, by have := HPK.out; omega, HPN, HSRC, HG2, HO, HB⟩
    · obtain rfl : k = n := by have := HK.out; omega
      have hPG : P = G := by
        have := HG.out
        rw [List.drop_eq_nil_of_le (by rw [HN.out]; exact Nat.le_refl _)] at this
        simpa using this
      have hP : ∀ g ∈ P, rightQ g.1 g.2 = 0 := fun g hg => HGR.out g (hPG ▸ hg)
      have hpn60 : P.length ≤ 60 := by rw [HPN.out]; exact hpn60
      have HAS : Hid (∀ w', St m w' → Calls Tryd.prog 9 #[.string (bs src)] w' fun e w'' => AsmTo w' w'' ⟨0, 0, (0, datI P), []⟩ e) := Lib.hid (fun w' h => by
        have hl := HLI.out
        have hlen := HSL.out
        have := assemble_any (joinN (P.map lineI)) m w' h (by rw [HSRC.out]; have := HPN.out; omega) (by rw [hl.1.2]; exact hl.2.1)
        rw [insts_all P hP hpn60 hl.1, HSRC.out] at this
        exact this)
      have HP := Lib.hid hP
      clear hPG hP HG HLI HSL hlt
      go_upto_region 12 with fail
      go_upto_region 13 with (first | (go_at_call 9; refine (HAS.out _ (St.below HS HB)).mono ?_; rintro e w9 ⟨⟨S9, c9, ms9, nv, rfl, hms, hsg, hnm⟩, hb⟩; replace HB := keepB HB hb; replace HO := Lib.hid (ownk_below HO.out hb); have HSG := Lib.hid hsg; have HMS := Lib.hid hms; obtain ⟨An, cn, rfl⟩ := own_valk hnm; clear hb hms hsg hnm) | (refine wlAlloc (by rfl) 34 rfl (imA 0 none 0 0) zeroIm ?_; intro gJ w5 hg hl ha hb; have HNX := Lib.hid (And.intro hb hb.size); have HGX := Lib.hid hg; have HJ := Lib.hid ha; clear ha hb hg hl) | (refine rowStore (by rfl) 34 _ _ rfl gJ rfl (imA 0 S9 ms9.length c9) rfl HJ.out infoIm rfl (imA_one _ _ _ _) ?_; intro w6 ha ho; replace HJ := Lib.hid ha; have hb := (keepBo HNX HGX.out ho).out.1; replace HB := keepB HB hb; replace HO := Lib.hid (ownk_below HO.out hb); replace HSG := Lib.hid (HSG.out.below hb); clear ha ho hb HNX HGX))
      by_cases hp0 : pn = 0
      · have hPe : P = [] := List.eq_nil_of_length_eq_zero (by rw [HPN.out]; exact hp0)
        have hm9 : ms9.length = 0 := by
          have h1 := congrArg List.length HMS.out
          rw [List.length_map] at h1
          rw [h1, hPe]
          rfl
        rw [hm9] at HJ
        have j0 := (show World.cell? _ ⟨gJ, 0, none⟩ = some (.int .u32 0) from cellA HJ 0)
        have j1 := (show World.cell? _ ⟨gJ, 1, none⟩ = some (.slice S9 0 c9) from cellA HJ 1)
        have z1 : ((pn : Int) == 0) = true := beq_iff_eq.2 (by omega)
        clear hPe hm9 hp0
        go_upto_region 14 with fail
        go_wp2_with (go_at_call 6; refine (awake_any m _ (St.below HS HB)).mono ?_; rintro e wz ⟨rfl, hb⟩; replace HB := keepB HB hb; clear hb)
        go_ret
        exact ⟨rfl, HB.out.1⟩
      · have hPn : P ≠ [] := fun q => hp0 (by rw [← HPN.out, q]; rfl)
        have hms := HMS.out
        unfold datI at hms
        rw [if_neg hPn] at hms
        obtain ⟨mm, rfl⟩ : ∃ mm, ms9 = [mm] := by
          cases ms9 with
          | nil => cases hms
          | cons a t =>
            cases t with
            | nil => exact ⟨a, rfl⟩
            | cons b t => simp at hms
        obtain ⟨sa, sD, cd, sd⟩ := mm
        simp only [List.map_cons, List.map_nil, SegM.v, List.cons.injEq, SegV.mk.injEq, and_true] at hms
        obtain ⟨rfl, hsd⟩ := hms
        obtain ⟨gs, cap, cur, hv, hBg, hcur, hc0, hc1⟩ := SegsAt.last (ms := []) HSG.out
        injection hv with e1 e2 e3
        subst e1
        have hin := HSG.out.inn ⟨0, sD, cd, sd⟩ (List.mem_singleton.2 rfl)
        have hdl : sd.length = 4 * pn := by rw [hsd, four_len, HPN.out]
        obtain ⟨gd, cdd, cur2, he, hB2, hh2, hc2, hx2, hs2, ht2⟩ := hin.2.resolve_left (fun q => by have h9 : sd.length = 0 := q.2; omega)
        obtain ⟨gw, cww, cur3, he3, hB3, hh3, hc3, hx3, hs3, ht3⟩ := HO.out.2.resolve_left (fun q => hp0 q.2)
        injection he with f1 f2 f3
        subst f1
        injection he3 with f4 f5 f6
        subst f4
        obtain ⟨dn, hdn⟩ : ∃ dn, sd.length = dn := ⟨_, rfl⟩
        obtain ⟨D, hD⟩ : ∃ D, (P.map fun g => four (wordG g)).flatten = D := ⟨_, rfl⟩
        rw [hD] at hsd
        subst hsd
        have HE0 := Lib.hid (EndF.mk (gJ := gJ) (gs := gs) (c9 := c9) (gd := gd) (dn := dn) (cd := cd) (gw := gw) (D := sd) (P := P) (cellA HJ 1) (by rw [cell_of_row _ gs 1 _ _ _ hcur, ← hdn]; exact hc1) (fun t b hb => by
          rw [cell_of_row _ gd t _ _ _ hh2, ← Array.getElem?_toList]
          have ht : t < sd.length := (List.getElem?_eq_some_iff.1 hb).1
          have h1 : (cur2.toList.take (sd.length * 1))[t]? = cur2.toList[t]? := List.getElem?_take_of_lt (by omega)
          rw [← h1, ht2]
          simp [ints, hb]) (fun t W hb => by
          rw [cell_of_row _ gw t _ _ _ hh3, ← Array.getElem?_toList]
          obtain ⟨g, hg, rfl⟩ := Option.map_eq_some_iff.1 hb
          have ht : t < P.length := (List.getElem?_eq_some_iff.1 hg).1
          have h1 : (cur3.toList.take (pn * 1))[t]? = cur3.toList[t]? := List.getElem?_take_of_lt (by rw [← HPN.out]; omega)
          rw [← h1, ht3]
          simp [hg]))
        have hdn2 : dn = 4 * pn := by rw [← hdn]; exact hdl
        have j0 := (show World.cell? _ ⟨gJ, 0, none⟩ = some (.int .u32 0) from cellA HJ 0)
        have j1 := (show World.cell? _ ⟨gJ, 1, none⟩ = some (.slice (some ⟨gs, 0, none⟩) 1 c9) from cellA HJ 1)
        have k0 := (show World.cell? _ ⟨gs, 0, none⟩ = some (.int .u32 0) from by rw [cell_of_row _ gs 0 _ _ _ hcur]; exact hc0)
        have k1 := (show World.cell? _ ⟨gs, 1, none⟩ = some (.slice (some ⟨gd, 0, none⟩) dn cd) from HE0.out.k1)
        have z1 : ((pn : Int) == 0) = false := beq_eq_false_iff_ne.2 (by omega)
        have z2 : ((dn : Int) != 4 * (pn : Int)) = false := bne_eq_false_iff_eq.2 (by omega)
        have HDL : Hid (sd.length = 4 * pn) := Lib.hid hdl
        have HDV : Hid ((P.map fun g => four (wordG g)).flatten = sd) := Lib.hid hD
        have HDN := Lib.hid hdn2
        clear hcur hc0 hc1 hBg hin hdl hB2 hh2 hc2 hx2 hs2 ht2 hB3 hh3 hc3 hx3 hs3 ht3 f2 f3 f5 f6 e2 e3 hdn hD hdn2 hPn hp0 cur cur2 cur3 cdd cww
        go_upto_region 15 with fail
        go_upto_region 17 with (refine wlIdx (by rfl) 32 _ _ rfl 40 2 Tryd.underlying32 sizeSeg gs 0 1 c9 0 rfl rfl (by decide) ?_)
        clear j0 j1 k0 k1 z1 z2
        go_wp2
        go_loopg [12] pn (fun gk s wr => ∃ i : Nat, s = .int .i64 (i : Nat) ∧ i + gk = pn ∧ Hid (EndF wr gJ gs c9 gd dn cd gw sd P) ∧ Hid (Below w.heap.size w wr ∧ w.heap.size ≤ wr.heap.size))
        case atStart => exact ⟨0, rfl, by omega, HE0, HB⟩
        case round =>
          clear HE0 HB HO HSG HJ
          obtain ⟨i, rfl, hi, HE, HB⟩ := hrel
          have HI9 := Lib.hid hi
          clear hi
          by_cases hip : i < pn
          · obtain ⟨wo, rfl⟩ : ∃ wo, wo = wr := ⟨wr, rfl⟩
            obtain ⟨gko, rfl⟩ : ∃ z, z = gk := ⟨gk, rfl⟩
            obtain ⟨W, hW⟩ : ∃ W, (P[i]?).map wordG = some W := ⟨wordG (P[i]'(by rw [HPN.out]; exact hip)), by rw [List.getElem?_eq_getElem (by rw [HPN.out]; exact hip)]; rfl⟩
            have HWT := Lib.hid hW
            have hW32 : W < 4294967296 := by
              obtain ⟨g, hg, rfl⟩ := Option.map_eq_some_iff.1 hW
              exact wordG_lt g (HP.out g (List.mem_of_getElem? hg))
            clear hW
            go_wp2
            go_loopg [13] 4 (fun gk s wr => ∃ j : Nat, s = .int .i64 (j : Nat) ∧ j + gk = 4 ∧ Hid (EndF wr gJ gs c9 gd dn cd gw sd P) ∧ Hid (Below w.heap.size w wr ∧ w.heap.size ≤ wr.heap.size))
            case atStart => exact ⟨0, rfl, by omega, HE, HB⟩
            case round =>
              clear HE HB
              obtain ⟨j, rfl, hj, HE, HB⟩ := hrel
              have HJ9 := Lib.hid hj
              by_cases hj4 : j < 4
              · have hk4 : j = 0 ∨ j = 1 ∨ j = 2 ∨ j = 3 := by omega
                obtain ⟨x, hx⟩ : ∃ x, 4 * i + j = x := ⟨_, rfl⟩
                obtain ⟨V, hV⟩ : ∃ V, W / 256 ^ j = V := ⟨_, rfl⟩
                obtain ⟨bt, hbt⟩ : ∃ bt, UInt8.ofNat V = bt := ⟨_, rfl⟩
                have HBT : Hid (sd[x]? = some bt) := Lib.hid (by rw [← HDV.out, ← hx, ← hbt, ← hV]; exact dat_at P i W j HWT.out hj4)
                have hxd : x < dn := by have := HDN.out; omega
                have hxs : x ≤ 16384 := by have := HDN.out; have := HPN.out; omega
                obtain ⟨c8, hc8⟩ : ∃ c : Int, c = 8 * (j : Int) := ⟨_, rfl⟩
                have hsh := shrW W j V hk4 c8 hc8 hV
                have hwb : IntKind.u8.wrap (V : Int) = (bt.toNat : Int) := by rw [← hbt, ofNat_int, IntKind.wrap_u8]
                obtain ⟨i4, hi4⟩ : ∃ i4 : Nat, 4 * i = i4 := ⟨_, rfl⟩
                have w4 : IntKind.i64.wrap (4 * (i : Int)) = (i4 : Int) := by rw [IntKind.wrap_i64]; omega
                obtain ⟨z, hz⟩ : ∃ z : Int, z = (i4 : Int) + (j : Int) := ⟨_, rfl⟩
                have wz9 : IntKind.i64.wrap z = (x : Int) := by rw [hz, IntKind.wrap_i64]; omega
                clear hbt hV hx hi4 hj
                rcases hk4 with rfl | rfl | rfl | rfl
                all_goals
                  simp only [Int.cast_ofNat_Int, Int.reduceMul, Int.mul_zero, Int.mul_one, Int.add_zero] at hc8 hz
                  subst hc8 hz
                  go_upto_region 23 with fail
                  refine rgStart (S := (fun w' => EndF w' gJ gs c9 gd dn cd gw sd P)) (n := 20) #[false, false, false, false, false, false, false, false, false, false, false, false, false, false, false, false, false, false, false, false] (by kernel_rfl) rfl rfl HE.out.drew (fun hHeld => ?_)
                  refine rgTake (i := 0) (N := some 122) (oi := { dst := some 122, op := Op.fieldAddr 34 (Operand.tmp 8) 1, type := 0, pos := "law.go:75", after := #[], guard := none }) (v := ?_) #[true, false, false, false, false, false, false, false, false, false, false, false, false, false, false, false, false, false, false, false] rfl rfl (by kernel_rfl) (fun _ _ _ h => h) (Or.inl ⟨by rfl, ?_⟩) hHeld ?_
                  rotate_left
                  · intro w' hSw; (try dsimp only at hSw); (have j1 := hSw.j1; have k1 := hSw.k1; have d0 : w'.cell? ⟨gd, x, none⟩ = some (.int .u8 (bt.toNat : Int)) := hSw.d x bt HBT.out; have p0 : w'.cell? ⟨gw, i, none⟩ = some (.int .u32 (W : Nat)) := hSw.w_ i W HWT.out; clear hSw); go_simp; try with_reducible rfl
                  simp only [Act.put, List.setIfInBounds_toArray, List.set_cons_zero, List.set_cons_succ]
                  refine rgTake (i := 1) (N := some 123) (oi := { dst := some 123, op := Op.load 32 (Operand.tmp 122), type := 32, pos := "law.go:75", after := #[{ on := 0, ground := Ground.data }], guard := none }) (v := ?_) #[true, true, false, false, false, false, false, false, false, false, false, false, false, false, false, false, false, false, false, false] rfl rfl (by kernel_rfl) (fun _ _ _ h => h) (Or.inl ⟨by rfl, ?_⟩) hHeld ?_
                  rotate_left
                  · intro w' hSw; (try dsimp only at hSw); (have j1 := hSw.j1; have k1 := hSw.k1; have d0 : w'.cell? ⟨gd, x, none⟩ = some (.int .u8 (bt.toNat : Int)) := hSw.d x bt HBT.out; have p0 : w'.cell? ⟨gw, i, none⟩ = some (.int .u32 (W : Nat)) := hSw.w_ i W HWT.out; clear hSw); go_simp; try with_reducible rfl
                  simp only [Act.put, List.setIfInBounds_toArray, List.set_cons_zero, List.set_cons_succ]
                  refine rgTake (i := 2) (N := some 124) (oi := { dst := some 124, op := Op.indexAddr 32 (Operand.tmp 123) (Operand.const (Value.int IntKind.i64 0)), type := 0, pos := "law.go:75", after := #[{ on := 1, ground := Ground.data }], guard := none }) (v := _) #[true, true, true, false, false, false, false, false, false, false, false, false, false, false, false, false, false, false, false, false] rfl rfl (by kernel_rfl) (fun _ _ _ h => h) (yieldsIdx0 (by rfl) 32 _ _ rfl 40 2 Tryd.underlying32 sizeSeg gs 1 c9 0 rfl rfl (by decide)) hHeld ?_
                  simp only [Act.put, List.setIfInBounds_toArray, List.set_cons_zero, List.set_cons_succ]
                  refine rgTake (i := 3) (N := some 125) (oi := { dst := some 125, op := Op.fieldAddr 40 (Operand.tmp 124) 1, type := 0, pos := "law.go:75", after := #[{ on := 2, ground := Ground.data }], guard := none }) (v := ?_) #[true, true, true, true, false, false, false, false, false, false, false, false, false, false, false, false, false, false, false, false] rfl rfl (by kernel_rfl) (fun _ _ _ h => h) (Or.inl ⟨by rfl, ?_⟩) hHeld ?_
                  rotate_left
                  · intro w' hSw; (try dsimp only at hSw); (have j1 := hSw.j1; have k1 := hSw.k1; have d0 : w'.cell? ⟨gd, x, none⟩ = some (.int .u8 (bt.toNat : Int)) := hSw.d x bt HBT.out; have p0 : w'.cell? ⟨gw, i, none⟩ = some (.int .u32 (W : Nat)) := hSw.w_ i W HWT.out; clear hSw); go_simp; try with_reducible rfl
                  simp only [Act.put, List.setIfInBounds_toArray, List.set_cons_zero, List.set_cons_succ]
                  refine rgTake (i := 4) (N := some 126) (oi := { dst := some 126, op := Op.load 38 (Operand.tmp 125), type := 38, pos := "law.go:75", after := #[{ on := 3, ground := Ground.data }], guard := none }) (v := ?_) #[true, true, true, true, true, false, false, false, false, false, false, false, false, false, false, false, false, false, false, false] rfl rfl (by kernel_rfl) (fun _ _ _ h => h) (Or.inl ⟨by rfl, ?_⟩) hHeld ?_
                  rotate_left
                  · intro w' hSw; (try dsimp only at hSw); (have j1 := hSw.j1; have k1 := hSw.k1; have d0 : w'.cell? ⟨gd, x, none⟩ = some (.int .u8 (bt.toNat : Int)) := hSw.d x bt HBT.out; have p0 : w'.cell? ⟨gw, i, none⟩ = some (.int .u32 (W : Nat)) := hSw.w_ i W HWT.out; clear hSw); go_simp; try with_reducible rfl
                  simp only [Act.put, List.setIfInBounds_toArray, List.set_cons_zero, List.set_cons_succ]
                  refine rgTake (i := 5) (N := some 127) (oi := { dst := some 127, op := Op.move (Operand.tmp 12), type := 3, pos := "law.go:75", after := #[], guard := none }) (v := ?_) #[true, true, true, true, true, true, false, false, false, false, false, false, false, false, false, false, false, false, false, false] rfl rfl (by kernel_rfl) (fun _ _ _ h => h) (Or.inl ⟨by rfl, ?_⟩) hHeld ?_
                  rotate_left
                  · intro w' hSw; (try dsimp only at hSw); (have j1 := hSw.j1; have k1 := hSw.k1; have d0 : w'.cell? ⟨gd, x, none⟩ = some (.int .u8 (bt.toNat : Int)) := hSw.d x bt HBT.out; have p0 : w'.cell? ⟨gw, i, none⟩ = some (.int .u32 (W : Nat)) := hSw.w_ i W HWT.out; clear hSw); go_simp; try with_reducible rfl
                  simp only [Act.put, List.setIfInBounds_toArray, List.set_cons_zero, List.set_cons_succ]
                  refine rgTake (i := 6) (N := some 128) (oi := { dst := some 128, op := Op.binOp BinOp.mul 3 (Operand.const (Value.int IntKind.i64 4)) (Operand.tmp 127) 3, type := 3, pos := "law.go:75", after := #[{ on := 5, ground := Ground.data }], guard := none }) (v := ?_) #[true, true, true, true, true, true, true, false, false, false, false, false, false, false, false, false, false, false, false, false] rfl rfl (by kernel_rfl) (fun _ _ _ h => h) (Or.inl ⟨by rfl, ?_⟩) hHeld ?_
                  rotate_left
                  · intro w' hSw; (try dsimp only at hSw); (have j1 := hSw.j1; have k1 := hSw.k1; have d0 : w'.cell? ⟨gd, x, none⟩ = some (.int .u8 (bt.toNat : Int)) := hSw.d x bt HBT.out; have p0 : w'.cell? ⟨gw, i, none⟩ = some (.int .u32 (W : Nat)) := hSw.w_ i W HWT.out; clear hSw); go_simp; try with_reducible rfl
                  simp only [Act.put, List.setIfInBounds_toArray, List.set_cons_zero, List.set_cons_succ]
                  refine rgTake (i := 7) (N := some 129) (oi := { dst := some 129, op := Op.move (Operand.tmp 13), type := 3, pos := "law.go:75", after := #[], guard := none }) (v := ?_) #[true, true, true, true, true, true, true, true, false, false, false, false, false, false, false, false, false, false, false, false] rfl rfl (by kernel_rfl) (fun _ _ _ h => h) (Or.inl ⟨by rfl, ?_⟩) hHeld ?_
                  rotate_left
                  · intro w' hSw; (try dsimp only at hSw); (have j1 := hSw.j1; have k1 := hSw.k1; have d0 : w'.cell? ⟨gd, x, none⟩ = some (.int .u8 (bt.toNat : Int)) := hSw.d x bt HBT.out; have p0 : w'.cell? ⟨gw, i, none⟩ = some (.int .u32 (W : Nat)) := hSw.w_ i W HWT.out; clear hSw); go_simp; try with_reducible rfl
                  simp only [Act.put, List.setIfInBounds_toArray, List.set_cons_zero, List.set_cons_succ]
                  refine rgTake (i := 8) (N := some 130) (oi := { dst := some 130, op := Op.binOp BinOp.add 3 (Operand.tmp 128) (Operand.tmp 129) 3, type := 3, pos := "law.go:75", after := #[{ on := 6, ground := Ground.data }, { on := 7, ground := Ground.data }], guard := none }) (v := ?_) #[true, true, true, true, true, true, true, true, true, false, false, false, false, false, false, false, false, false, false, false] rfl rfl (by kernel_rfl) (fun _ _ _ h => h) (Or.inl ⟨by rfl, ?_⟩) hHeld ?_
                  rotate_left
                  · intro w' hSw; (try dsimp only at hSw); (have j1 := hSw.j1; have k1 := hSw.k1; have d0 : w'.cell? ⟨gd, x, none⟩ = some (.int .u8 (bt.toNat : Int)) := hSw.d x bt HBT.out; have p0 : w'.cell? ⟨gw, i, none⟩ = some (.int .u32 (W : Nat)) := hSw.w_ i W HWT.out; clear hSw); go_simp; try with_reducible rfl
                  simp only [Act.put, List.setIfInBounds_toArray, List.set_cons_zero, List.set_cons_succ]
                  refine rgTake (i := 9) (N := some 131) (oi := { dst := some 131, op := Op.indexAddr 38 (Operand.tmp 126) (Operand.tmp 130), type := 0, pos := "law.go:75", after := #[{ on := 4, ground := Ground.data }, { on := 8, ground := Ground.data }], guard := none }) (v := _) #[true, true, true, true, true, true, true, true, true, true, false, false, false, false, false, false, false, false, false, false] rfl rfl (by kernel_rfl) (fun _ _ _ h => h) (yieldsIdx0 (by rfl) 38 _ _ rfl 5 1 Tryd.underlying38 sizeU8 gd dn cd x rfl rfl hxd) hHeld ?_
                  simp only [Act.put, List.setIfInBounds_toArray, List.set_cons_zero, List.set_cons_succ]
                  refine rgTake (i := 10) (N := some 132) (oi := { dst := some 132, op := Op.load 5 (Operand.tmp 131), type := 5, pos := "law.go:75", after := #[{ on := 9, ground := Ground.data }], guard := none }) (v := ?_) #[true, true, true, true, true, true, true, true, true, true, true, false, false, false, false, false, false, false, false, false] rfl rfl (by kernel_rfl) (fun _ _ _ h => h) (Or.inl ⟨by rfl, ?_⟩) hHeld ?_
                  rotate_left
                  · intro w' hSw; (try dsimp only at hSw); (have j1 := hSw.j1; have k1 := hSw.k1; have d0 : w'.cell? ⟨gd, x, none⟩ = some (.int .u8 (bt.toNat : Int)) := hSw.d x bt HBT.out; have p0 : w'.cell? ⟨gw, i, none⟩ = some (.int .u32 (W : Nat)) := hSw.w_ i W HWT.out; clear hSw); go_simp; try with_reducible rfl
                  simp only [Act.put, List.setIfInBounds_toArray, List.set_cons_zero, List.set_cons_succ]
                  refine rgTake (i := 11) (N := some 133) (oi := { dst := some 133, op := Op.move (Operand.tmp 4), type := 24, pos := "law.go:75", after := #[], guard := none }) (v := ?_) #[true, true, true, true, true, true, true, true, true, true, true, true, false, false, false, false, false, false, false, false] rfl rfl (by kernel_rfl) (fun _ _ _ h => h) (Or.inl ⟨by rfl, ?_⟩) hHeld ?_
                  rotate_left
                  · intro w' hSw; (try dsimp only at hSw); (have j1 := hSw.j1; have k1 := hSw.k1; have d0 : w'.cell? ⟨gd, x, none⟩ = some (.int .u8 (bt.toNat : Int)) := hSw.d x bt HBT.out; have p0 : w'.cell? ⟨gw, i, none⟩ = some (.int .u32 (W : Nat)) := hSw.w_ i W HWT.out; clear hSw); go_simp; try with_reducible rfl
                  simp only [Act.put, List.setIfInBounds_toArray, List.set_cons_zero, List.set_cons_succ]
                  refine rgTake (i := 12) (N := some 134) (oi := { dst := some 134, op := Op.move (Operand.tmp 12), type := 3, pos := "law.go:75", after := #[], guard := none }) (v := ?_) #[true, true, true, true, true, true, true, true, true, true, true, true, true, false, false, false, false, false, false, false] rfl rfl (by kernel_rfl) (fun _ _ _ h => h) (Or.inl ⟨by rfl, ?_⟩) hHeld ?_
                  rotate_left
                  · intro w' hSw; (try dsimp only at hSw); (have j1 := hSw.j1; have k1 := hSw.k1; have d0 : w'.cell? ⟨gd, x, none⟩ = some (.int .u8 (bt.toNat : Int)) := hSw.d x bt HBT.out; have p0 : w'.cell? ⟨gw, i, none⟩ = some (.int .u32 (W : Nat)) := hSw.w_ i W HWT.out; clear hSw); go_simp; try with_reducible rfl
                  simp only [Act.put, List.setIfInBounds_toArray, List.set_cons_zero, List.set_cons_succ]
                  refine rgTake (i := 13) (N := some 135) (oi := { dst := some 135, op := Op.indexAddr 24 (Operand.tmp 133) (Operand.tmp 134), type := 0, pos := "law.go:75", after := #[{ on := 11, ground := Ground.data }, { on := 12, ground := Ground.data }], guard := none }) (v := _) #[true, true, true, true, true, true, true, true, true, true, true, true, true, true, false, false, false, false, false, false] rfl rfl (by kernel_rfl) (fun _ _ _ h => h) (yieldsIdx0 (by rfl) 24 _ _ rfl 25 1 Tryd.underlying24 sizeU32 gw pn cv i rfl rfl hip) hHeld ?_
                  simp only [Act.put, List.setIfInBounds_toArray, List.set_cons_zero, List.set_cons_succ]
                  refine rgTake (i := 14) (N := some 136) (oi := { dst := some 136, op := Op.load 25 (Operand.tmp 135), type := 25, pos := "law.go:75", after := #[{ on := 13, ground := Ground.data }], guard := none }) (v := ?_) #[true, true, true, true, true, true, true, true, true, true, true, true, true, true, true, false, false, false, false, false] rfl rfl (by kernel_rfl) (fun _ _ _ h => h) (Or.inl ⟨by rfl, ?_⟩) hHeld ?_
                  rotate_left
                  · intro w' hSw; (try dsimp only at hSw); (have j1 := hSw.j1; have k1 := hSw.k1; have d0 : w'.cell? ⟨gd, x, none⟩ = some (.int .u8 (bt.toNat : Int)) := hSw.d x bt HBT.out; have p0 : w'.cell? ⟨gw, i, none⟩ = some (.int .u32 (W : Nat)) := hSw.w_ i W HWT.out; clear hSw); go_simp; try with_reducible rfl
                  simp only [Act.put, List.setIfInBounds_toArray, List.set_cons_zero, List.set_cons_succ]
                  refine rgTake (i := 15) (N := some 137) (oi := { dst := some 137, op := Op.move (Operand.tmp 13), type := 3, pos := "law.go:75", after := #[], guard := none }) (v := ?_) #[true, true, true, true, true, true, true, true, true, true, true, true, true, true, true, true, false, false, false, false] rfl rfl (by kernel_rfl) (fun _ _ _ h => h) (Or.inl ⟨by rfl, ?_⟩) hHeld ?_
                  rotate_left
                  · intro w' hSw; (try dsimp only at hSw); (have j1 := hSw.j1; have k1 := hSw.k1; have d0 : w'.cell? ⟨gd, x, none⟩ = some (.int .u8 (bt.toNat : Int)) := hSw.d x bt HBT.out; have p0 : w'.cell? ⟨gw, i, none⟩ = some (.int .u32 (W : Nat)) := hSw.w_ i W HWT.out; clear hSw); go_simp; try with_reducible rfl
                  simp only [Act.put, List.setIfInBounds_toArray, List.set_cons_zero, List.set_cons_succ]
                  refine rgTake (i := 16) (N := some 138) (oi := { dst := some 138, op := Op.binOp BinOp.mul 3 (Operand.const (Value.int IntKind.i64 8)) (Operand.tmp 137) 3, type := 3, pos := "law.go:75", after := #[{ on := 15, ground := Ground.data }], guard := none }) (v := ?_) #[true, true, true, true, true, true, true, true, true, true, true, true, true, true, true, true, true, false, false, false] rfl rfl (by kernel_rfl) (fun _ _ _ h => h) (Or.inl ⟨by rfl, ?_⟩) hHeld ?_
                  rotate_left
                  · intro w' hSw; (try dsimp only at hSw); (have j1 := hSw.j1; have k1 := hSw.k1; have d0 : w'.cell? ⟨gd, x, none⟩ = some (.int .u8 (bt.toNat : Int)) := hSw.d x bt HBT.out; have p0 : w'.cell? ⟨gw, i, none⟩ = some (.int .u32 (W : Nat)) := hSw.w_ i W HWT.out; clear hSw); go_simp; try with_reducible rfl
                  simp only [Act.put, List.setIfInBounds_toArray, List.set_cons_zero, List.set_cons_succ]
                  refine rgTake (i := 17) (N := some 139) (oi := { dst := some 139, op := Op.binOp BinOp.shr 25 (Operand.tmp 136) (Operand.tmp 138) 3, type := 25, pos := "law.go:75", after := #[{ on := 14, ground := Ground.data }, { on := 16, ground := Ground.data }], guard := none }) (v := ?_) #[true, true, true, true, true, true, true, true, true, true, true, true, true, true, true, true, true, true, false, false] rfl rfl (by kernel_rfl) (fun _ _ _ h => h) (Or.inl ⟨by rfl, ?_⟩) hHeld ?_
                  rotate_left
                  · intro w' hSw; (try dsimp only at hSw); (have j1 := hSw.j1; have k1 := hSw.k1; have d0 : w'.cell? ⟨gd, x, none⟩ = some (.int .u8 (bt.toNat : Int)) := hSw.d x bt HBT.out; have p0 : w'.cell? ⟨gw, i, none⟩ = some (.int .u32 (W : Nat)) := hSw.w_ i W HWT.out; clear hSw); go_simp; try with_reducible rfl
                  simp only [Act.put, List.setIfInBounds_toArray, List.set_cons_zero, List.set_cons_succ]
                  refine rgTake (i := 18) (N := some 140) (oi := { dst := some 140, op := Op.convert 25 5 (Operand.tmp 139), type := 5, pos := "law.go:75", after := #[{ on := 17, ground := Ground.data }], guard := none }) (v := ?_) #[true, true, true, true, true, true, true, true, true, true, true, true, true, true, true, true, true, true, true, false] rfl rfl (by kernel_rfl) (fun _ _ _ h => h) (Or.inl ⟨by rfl, ?_⟩) hHeld ?_
                  rotate_left
                  · intro w' hSw; (try dsimp only at hSw); (have j1 := hSw.j1; have k1 := hSw.k1; have d0 : w'.cell? ⟨gd, x, none⟩ = some (.int .u8 (bt.toNat : Int)) := hSw.d x bt HBT.out; have p0 : w'.cell? ⟨gw, i, none⟩ = some (.int .u32 (W : Nat)) := hSw.w_ i W HWT.out; clear hSw); go_simp; try with_reducible rfl
                  simp only [Act.put, List.setIfInBounds_toArray, List.set_cons_zero, List.set_cons_succ]
                  refine rgTake (i := 19) (N := some 141) (oi := { dst := some 141, op := Op.binOp BinOp.neq 5 (Operand.tmp 132) (Operand.tmp 140) 5, type := 4, pos := "law.go:75", after := #[{ on := 10, ground := Ground.data }, { on := 18, ground := Ground.data }], guard := none }) (v := ?_) #[true, true, true, true, true, true, true, true, true, true, true, true, true, true, true, true, true, true, true, true] rfl rfl (by kernel_rfl) (fun _ _ _ h => h) (Or.inl ⟨by rfl, ?_⟩) hHeld ?_
                  rotate_left
                  · intro w' hSw; (try dsimp only at hSw); (have j1 := hSw.j1; have k1 := hSw.k1; have d0 : w'.cell? ⟨gd, x, none⟩ = some (.int .u8 (bt.toNat : Int)) := hSw.d x bt HBT.out; have p0 : w'.cell? ⟨gw, i, none⟩ = some (.int .u32 (W : Nat)) := hSw.w_ i W HWT.out; clear hSw); go_simp; try with_reducible rfl
                  simp only [Act.put, List.setIfInBounds_toArray, List.set_cons_zero, List.set_cons_succ]
                  refine rgDone (by kernel_rfl) ?_ _
                  clear hHeld
                  replace HE := Lib.hid HE.out.drew
                  replace HB := keepB1 HB
                  go_wp2
                  go_roundg (gk - 1)
                  case measure => have := HJ9.out; omega
                  case rel =>
                    have hj9 := HJ9.out
                    first
                    | exact ⟨1, rfl, by omega, HE, HB⟩
                    | exact ⟨2, rfl, by omega, HE, HB⟩
                    | exact ⟨3, rfl, by omega, HE, HB⟩
                    | exact ⟨4, rfl, by omega, HE, HB⟩
              · go_wp2
                go_roundg (gko - 1)
                case measure => have := HI9.out; omega
                case rel => exact ⟨i + 1, rfl, by have := HI9.out; omega, HE, HB⟩
          · go_wp2_with (go_at_call 6; refine (awake_any m _ (St.below HS HB)).mono ?_; rintro e wz ⟨rfl, hb⟩; replace HB := keepB HB hb; clear hb)
            go_ret
            exact ⟨rfl, HB.out.1⟩
end Go.Proofs.YtaclidjhgpkmpaaDoor.My
set_option linter.unusedSimpArgs false
set_option linter.unusedVariables false
namespace Go.Proofs.YtaclidjhgpkmpaaDoor.My
open Go.ChangeShapes Go.WideShapes Go.ChangeAt Go.RowKit
section
variable {w : World} {H : Type} {enc : TypeId × Value → H} {base : Nat} {spare : Nat → Bool} {held : Bool}
theorem el_ints {l : List UInt8} {k : Nat} {c : UInt8} (h : l[k]? = some c) : el (ints l) k = (c.toNat : Int) := by simp [el, ints, h]
theorem of_nat {n : Nat} (h : n < 256) : (((UInt8.ofNat n).toNat : Nat) : Int) = (n : Int) := by rw [UInt8.toNat_ofNat', Nat.mod_eq_of_lt (by omega)]
theorem fld {t : TypeId} {fs : Array Field} {fuel : Nat} {cs : List Value} {x : DataW H × List MemPlace} {m : Nat} (ht : Tryd.prog.underlying t = some (.struct fs)) (h : DataW.trod enc Tryd.prog w base spare held fuel t cs = some x) (i : Nat) (f : Field) (hf : fs[i]? = some f) (hm : Tryd.prog.cellsOf f.type = m) :
    ∃ n y, DataW.trod enc Tryd.prog w base spare held n f.type ((cs.drop f.offset).take m) = some y := by
  obtain ⟨xs, n, _, _, _, hl, hfi⟩ := DataW.trod_struct ht h
  have h2 := hfi i f hf
  have hi : i < xs.length := by rw [hl]; exact (Array.getElem?_eq_some_iff.1 hf).1
  rw [List.getElem?_eq_getElem hi, hm] at h2
  exact ⟨n, _, h2⟩
theorem split_cons {α : Type} {n : Nat} {cs : List α} (h : cs.length = n + 1) : ∃ c cs', cs = c :: cs' ∧ cs'.length = n := by
  cases cs with
  | nil => simp at h
  | cons c cs => exact ⟨c, cs, rfl, by simpa using h⟩
end
theorem cells_range {w : World} {base : Nat} {b off n : Nat} {cs : List Value} (h : w.cells? base ⟨b, off, none⟩ n = some cs) : cs.length = n ∧ w.rangeAt b off cs := by
  unfold World.cells? at h
  split at h
  · refine ⟨by simpa using mapM_some_length h, fun j v hv => ?_⟩
    have hj : j < cs.length := (List.getElem?_eq_some_iff.1 hv).1
    have hl : cs.length = n := by simpa using mapM_some_length h
    have h2 := mapM_some_get h j j (by simp [List.getElem?_range (show j < n by omega)])
    rw [hv, addr_add] at h2
    exact h2
  · cases h
theorem cells_spot {w : World} {base : Nat} {a : Addr} {n : Nat} {cs : List Value} (h : w.cells? base a n = some cs) (hn : 0 < n) : a.spot = none := by
  unfold World.cells? at h
  split at h
  · have hl : cs.length = n := by simpa using mapM_some_length h
    have h2 := mapM_some_get h 0 0 (by simp [List.getElem?_range hn])
    rw [List.getElem?_eq_getElem (show 0 < cs.length by omega)] at h2
    simpa [Addr.add] using World.cell?_spot h2
  · cases h
/-- A slice of rows of cells, each of a known shape. -/
theorem open_rows_at {α : Type} {w : World} {H : Type} {enc : TypeId × Value → H} {base : Nat} {spare : Nat → Bool} {held : Bool} {t e : TypeId} {v : Value} (k : Nat) (f : α → Array Value) (z : α) (Pa : α → Prop) (ht : Tryd.prog.underlying t = some (.slice e)) (hk : Tryd.prog.cellsOf e = k) (hk0 : 0 < k)
    (hsh : ∀ n cs x, DataW.trod enc Tryd.prog w base spare held n e cs = some x → ∃ u, cs = (f u).toList ∧ Pa u) (hf : ∀ u, (f u).size = k) {fuel : Nat} {x : DataW H × List MemPlace} (h : DataW.trod enc Tryd.prog w base spare held fuel t [v] = some x) :
    ∃ (A : Option Addr) (c : Nat) (us : List α), v = .slice A us.length c ∧ RwA w A k us.length (us.map f) ∧ us.length ≤ maxLen ∧ us.length ≤ c ∧ (A = none → c = 0) ∧ ∀ u ∈ us, Pa u := by
  rcases Go.Deep.open_slice ht h with ⟨hcs, _⟩ | ⟨a, len, cap, m, n, D, Pl, hcs, hb, hl, hm, hmm, _, hel⟩
  · simp only [List.cons.injEq, and_true] at hcs
    subst hcs
    exact ⟨none, 0, [], rfl, ⟨rfl, (fun r hr => by cases hr), fun h => absurd h (Nat.lt_irrefl 0)⟩, Nat.zero_le _, Nat.le_refl _, (fun _ => rfl), fun u hu => by cases hu⟩
  · simp only [List.cons.injEq, and_true] at hcs
    subst hcs
    have hlm : len ≤ m := by rw [hmm]; split <;> omega
    have hx : ∀ i, i < len → ∃ u, w.cells? base (a.add (i * k)) k = some (f u).toList ∧ Pa u := fun i hi => by
      obtain ⟨cs', h1, h2⟩ := hel i (by omega)
      obtain ⟨u, rfl, hu⟩ := hsh _ _ _ h2
      rw [hk] at h1
      exact ⟨u, h1, hu⟩
    obtain ⟨U, hU⟩ : ∃ U : Nat → α, ∀ i, i < len → w.cells? base (a.add (i * k)) k = some (f (U i)).toList ∧ Pa (U i) := by
      refine ⟨fun i => if h : i < len then Classical.choose (hx i h) else z, fun i hi => ?_⟩
      simp only [dif_pos hi]
      exact Classical.choose_spec (hx i hi)
    have hlen : ((List.range len).map U).length = len := by simp
    refine ⟨some a, cap, (List.range len).map U, by rw [hlen], ⟨by simp, (fun r hr => ?_), fun hn => ?_⟩, by rw [hlen]; omega, by rw [hlen]; omega, (fun h => by cases h), (fun u hu => ?_)⟩
    · obtain ⟨u, _, rfl⟩ := List.mem_map.1 hr
      exact hf u
    · rw [hlen] at hn
      obtain ⟨b, off, spot⟩ := a
      have h0 := (hU 0 hn).1
      rw [Nat.zero_mul] at h0
      have hs : spot = none := by simpa [Addr.add] using cells_spot h0 hk0
      subst hs
      refine ⟨b, off, rfl, ?_, fun j r hr => ?_⟩
      · rw [addr_add] at h0
        have h1 := (cells_range h0).2
        have hp : 0 < (f (U 0)).toList.length := by simp [hf]; exact hk0
        exact World.block_lt_of_cell? w _ (h1 0 _ (List.getElem?_eq_getElem hp))
      · have hj : j < len := by
          have := (List.getElem?_eq_some_iff.1 hr).1
          simpa using this
        have h1 := (hU j hj).1
        rw [addr_add] at h1
        have hr' : f (U j) = r := by
          rw [List.getElem?_map, List.getElem?_map, List.getElem?_range hj] at hr
          simpa using hr
        rw [← hr']
        exact (cells_range h1).2
    · obtain ⟨i, hi, rfl⟩ := List.mem_map.1 hu
      exact (hU i (by simpa using hi)).2
theorem okWide_slice {P : Program} {w : World} {r : Reach} {base : Nat} {t e : TypeId} {v : Value} (ht : P.underlying t = some (.slice e)) (h : Value.okWide P w r base t v) : v.cells.toList = [v] := by
  unfold Value.okWide at h
  rw [ht] at h
  cases v <;> simp_all [Value.cells, Cell.okWide, Cell.ok]

/-- A segment of an argument. -/
def SegG (w : World) (m : SegM) : Prop := m.at_ < 4294967296 ∧ m.d.length ≤ maxLen ∧ m.d.length ≤ m.c ∧ RdA .u8 w m.D m.d.length (ints m.d)
def b1 (c : UInt8) : Array Value := #[.int .u8 (c.toNat : Int)]
theorem rd_rows {w : World} {A : Option Addr} {d : List UInt8} (h : RwA w A 1 d.length (d.map b1)) : RdA .u8 w A d.length (ints d) := by
  refine ⟨by simp [ints], fun hn => ?_⟩
  obtain ⟨b, off, hA, _, hc⟩ := h.2.2 hn
  refine ⟨b, off, hA, fun j hj => ?_⟩
  obtain ⟨c, hcj⟩ : ∃ c, d[j]? = some c := ⟨_, List.getElem?_eq_getElem hj⟩
  have h1 := hc j (b1 c) (by simp [hcj]) 0 (.int .u8 (c.toNat : Int)) rfl
  rw [Nat.mul_one, Nat.add_zero] at h1
  rw [el_ints hcj]
  exact h1
section
variable {w : World} {H : Type} {enc : TypeId × Value → H} {base : Nat} {spare : Nat → Bool} {held : Bool}
theorem byte_of {fuel : Nat} {cs : List Value} {x : DataW H × List MemPlace} (h : DataW.trod enc Tryd.prog w base spare held fuel 5 cs = some x) : ∃ u : UInt8, cs = (b1 u).toList ∧ True := by
  obtain ⟨n, rfl, _, wf⟩ := DataW.trod_int Tryd.underlying5 h
  have hw := wf_u8 wf
  refine ⟨UInt8.ofNat n.toNat, ?_, trivial⟩
  show [Value.int .u8 n] = [Value.int .u8 ((UInt8.ofNat n.toNat).toNat : Int)]
  rw [of_nat (show n.toNat < 256 by omega)]
  rw [show ((n.toNat : Nat) : Int) = n by omega]
set_option maxRecDepth 100000 in
theorem bytes_of {fuel : Nat} {v : Value} {x : DataW H × List MemPlace} (h : DataW.trod enc Tryd.prog w base spare held fuel 38 [v] = some x) : ∃ (D : Option Addr) (c : Nat) (d : List UInt8), v = .slice D d.length c ∧ RdA .u8 w D d.length (ints d) ∧ d.length ≤ maxLen ∧ d.length ≤ c ∧ (D = none → c = 0) := by
  obtain ⟨A, c, us, h1, h2, h3, h4, h5, _⟩ := open_rows_at 1 b1 0 (fun _ => True) Tryd.underlying38 (by kernel_rfl) (by omega) (fun n cs x h => byte_of h) (fun u => rfl) h
  exact ⟨A, c, us, h1, rd_rows h2, h3, h4, h5⟩
set_option maxRecDepth 100000 in
theorem seg_of {fuel : Nat} {cs : List Value} {x : DataW H × List MemPlace} (h : DataW.trod enc Tryd.prog w base spare held fuel 40 cs = some x) : ∃ m : SegM, cs = (sA m).toList ∧ SegG w m := by
  obtain ⟨_, _, _, _, hlen, _, _⟩ := DataW.trod_struct Tryd.underlying40 h
  have hlen : cs.length = 2 := hlen.trans (by kernel_rfl)
  obtain ⟨c0, r0, rfl, l0⟩ := split_cons hlen
  obtain ⟨c1, r1, rfl, l1⟩ := split_cons l0
  obtain rfl := List.eq_nil_of_length_eq_zero l1
  obtain ⟨n1, y1, h1⟩ := fld (m := 1) Tryd.underlying40 h 0 _ rfl (by kernel_rfl)
  replace h1 : DataW.trod enc Tryd.prog w base spare held n1 25 [c0] = some y1 := h1
  obtain ⟨n2, y2, h2⟩ := fld (m := 1) Tryd.underlying40 h 1 _ rfl (by kernel_rfl)
  replace h2 : DataW.trod enc Tryd.prog w base spare held n2 38 [c1] = some y2 := h2
  obtain ⟨a, ea, _, wa⟩ := DataW.trod_int Tryd.underlying25 h1
  obtain rfl := (List.cons.inj ea).1
  obtain ⟨D, c, d, rfl, e1, e2, e3, _⟩ := bytes_of h2
  have hw := wf_u32 wa
  refine ⟨⟨a.toNat, D, c, d⟩, ?_, by show a.toNat < _; omega, e2, e3, e1⟩
  show [Value.int .u32 a, .slice D d.length c] = [Value.int .u32 ((a.toNat : Nat) : Int), .slice D d.length c]
  rw [show ((a.toNat : Nat) : Int) = a by omega]
end
/-- A slice of segments of an argument. -/
def RdSgG (w : World) (A : Option Addr) (ms : List SegM) : Prop := RwA w A 2 ms.length (ms.map sA) ∧ ∀ m ∈ ms, SegG w m
theorem RdSgG.below {w w' : World} {A : Option Addr} {ms : List SegM} (h : RdSgG w A ms) (hb : Below w.heap.size w w') : RdSgG w' A ms :=
  ⟨h.1.below hb, fun m hm => ⟨(h.2 m hm).1, (h.2 m hm).2.1, (h.2 m hm).2.2.1, (h.2 m hm).2.2.2.below hb⟩⟩
theorem RdSgG.small {w : World} {A : Option Addr} {ms : List SegM} (h : RdSgG w A ms) (hs : ∀ m ∈ ms, m.d.length ≤ 1000000) : RdSg w A ms :=
  ⟨h.1, fun m hm => ⟨(h.2 m hm).1, hs m hm, (h.2 m hm).2.2.1, (h.2 m hm).2.2.2⟩⟩
set_option maxRecDepth 100000 in
theorem open_image {w : World} {H : Type} {enc : TypeId × Value → H} {r : Reach} {b0 base : Nat} {spare : Nat → Bool} {held : Bool} {v : Value} {d : DataW H} {ps : List MemPlace} (hval : Value.okWide Tryd.prog w r b0 34 v) (hd : DataW.Trod enc Tryd.prog w base spare held 34 v d ps) :
    ∃ (st : Nat) (S : Option Addr) (ms : List SegM) (c : Nat), v = .agg (imA st S ms.length c) ∧ st < 4294967296 ∧ RdSgG w S ms ∧ ms.length ≤ maxLen ∧ ms.length ≤ c := by
  obtain ⟨cs, rfl, hc⟩ := open_row Tryd.underlying34 rfl (ts := [25, 32]) (by kernel_rfl) (by kernel_rfl) hval
  obtain ⟨c0, r0, rfl, _, hc⟩ := hc.cons
  obtain ⟨c1, r1, rfl, _, hc⟩ := hc.cons
  obtain rfl := hc.nil
  obtain ⟨fuel, h⟩ := hd
  replace h : DataW.trod enc Tryd.prog w base spare held fuel 34 [c0, c1] = some (d, ps) := h
  obtain ⟨n1, y1, h1⟩ := fld (m := 1) Tryd.underlying34 h 0 _ rfl (by kernel_rfl)
  replace h1 : DataW.trod enc Tryd.prog w base spare held n1 25 [c0] = some y1 := h1
  obtain ⟨n2, y2, h2⟩ := fld (m := 1) Tryd.underlying34 h 1 _ rfl (by kernel_rfl)
  replace h2 : DataW.trod enc Tryd.prog w base spare held n2 32 [c1] = some y2 := h2
  obtain ⟨a, ea, _, wa⟩ := DataW.trod_int Tryd.underlying25 h1
  obtain rfl := (List.cons.inj ea).1
  obtain ⟨A, c, us, rfl, e1, e2, e3, _, e5⟩ := open_rows_at 2 sA ⟨0, none, 0, []⟩ (SegG w) Tryd.underlying32 (by kernel_rfl) (by omega) (fun n cs x h => seg_of h) (fun u => rfl) h2
  have hw := wf_u32 wa
  refine ⟨a.toNat, A, us, c, ?_, by omega, ⟨e1, e5⟩, e2, e3⟩
  show Value.agg #[.int .u32 a, .slice A us.length c] = Value.agg #[.int .u32 ((a.toNat : Nat) : Int), .slice A us.length c]
  rw [show ((a.toNat : Nat) : Int) = a by omega]
end Go.Proofs.YtaclidjhgpkmpaaDoor.My
set_option linter.unusedVariables false
set_option linter.unusedSimpArgs false
namespace Go.Proofs.YtaclidjhgpkmpaaDoor.My
open Go.ChangeShapes Go.WideShapes Go.ChangeAt Go.RowKit
section
variable {w : World} {H : Type} {enc : TypeId × Value → H} {base : Nat} {spare : Nat → Bool} {held : Bool}
theorem wf_i64b {n : Int} (h : (Lit.int .i64 n).wf = true) : -9223372036854775808 ≤ n ∧ n ≤ 9223372036854775807 := by
  simpa [Lit.wf, IntKind.has, IntKind.min, IntKind.max, IntKind.signed, IntKind.bits] using h
set_option maxRecDepth 100000 in
theorem inst_of {fuel : Nat} {cs : List Value} {x : DataW H × List MemPlace} (h : DataW.trod enc Tryd.prog w base spare held fuel 30 cs = some x) : ∃ g : Int × Q4, cs = (insQ g.1 g.2).toList ∧ g.2.ok := by
  obtain ⟨_, _, _, _, hlen, _, _⟩ := DataW.trod_struct Tryd.underlying30 h
  have hlen : cs.length = 5 := hlen.trans (by kernel_rfl)
  obtain ⟨c0, r0, rfl, l0⟩ := split_cons hlen
  obtain ⟨c1, r1, rfl, l1⟩ := split_cons l0
  obtain ⟨c2, r2, rfl, l2⟩ := split_cons l1
  obtain ⟨c3, r3, rfl, l3⟩ := split_cons l2
  obtain ⟨c4, r4, rfl, l4⟩ := split_cons l3
  obtain rfl := List.eq_nil_of_length_eq_zero l4
  obtain ⟨n0, y0, h0⟩ := fld (m := 1) Tryd.underlying30 h 0 _ rfl (by kernel_rfl)
  replace h0 : DataW.trod enc Tryd.prog w base spare held n0 3 [c0] = some y0 := h0
  obtain ⟨n1, y1, h1⟩ := fld (m := 1) Tryd.underlying30 h 1 _ rfl (by kernel_rfl)
  replace h1 : DataW.trod enc Tryd.prog w base spare held n1 3 [c1] = some y1 := h1
  obtain ⟨n2, y2, h2⟩ := fld (m := 1) Tryd.underlying30 h 2 _ rfl (by kernel_rfl)
  replace h2 : DataW.trod enc Tryd.prog w base spare held n2 3 [c2] = some y2 := h2
  obtain ⟨n3, y3, h3⟩ := fld (m := 1) Tryd.underlying30 h 3 _ rfl (by kernel_rfl)
  replace h3 : DataW.trod enc Tryd.prog w base spare held n3 3 [c3] = some y3 := h3
  obtain ⟨n4, y4, h4⟩ := fld (m := 1) Tryd.underlying30 h 4 _ rfl (by kernel_rfl)
  replace h4 : DataW.trod enc Tryd.prog w base spare held n4 3 [c4] = some y4 := h4
  obtain ⟨a0, e0, _, w0⟩ := DataW.trod_int Tryd.underlying3 h0
  obtain ⟨a1, e1, _, w1⟩ := DataW.trod_int Tryd.underlying3 h1
  obtain ⟨a2, e2, _, w2⟩ := DataW.trod_int Tryd.underlying3 h2
  obtain ⟨a3, e3, _, w3⟩ := DataW.trod_int Tryd.underlying3 h3
  obtain ⟨a4, e4, _, w4⟩ := DataW.trod_int Tryd.underlying3 h4
  obtain rfl := (List.cons.inj e0).1
  obtain rfl := (List.cons.inj e1).1
  obtain rfl := (List.cons.inj e2).1
  obtain rfl := (List.cons.inj e3).1
  obtain rfl := (List.cons.inj e4).1
  refine ⟨(a0, ⟨a1, a2, a3, a4⟩), rfl, fun k => ?_⟩
  have b1 := wf_i64b w1
  have b2 := wf_i64b w2
  have b3 := wf_i64b w3
  have b4 := wf_i64b w4
  show -9223372036854775808 ≤ valV a1 a2 a3 a4 k ∧ valV a1 a2 a3 a4 k ≤ 9223372036854775807
  unfold valV
  repeat' split
  all_goals omega
end
set_option maxRecDepth 100000 in
theorem open_insts {w : World} {H : Type} {enc : TypeId × Value → H} {r : Reach} {b0 base : Nat} {spare : Nat → Bool} {held : Bool} {v : Value} {d : DataW H} {ps : List MemPlace} (hval : Value.okWide Tryd.prog w r b0 22 v) (hd : DataW.Trod enc Tryd.prog w base spare held 22 v d ps) :
    ∃ (A : Option Addr) (gs : List (Int × Q4)) (c : Nat), v = .slice A gs.length c ∧ RdIn w A gs ∧ gs.length ≤ maxLen := by
  obtain ⟨fuel, h⟩ := hd
  rw [okWide_slice Tryd.underlying22 hval] at h
  obtain ⟨A, c, us, rfl, e1, e2, e3, _, e5⟩ := open_rows_at 5 (fun g : Int × Q4 => insQ g.1 g.2) (0, q0) (fun g => g.2.ok) Tryd.underlying22 (by kernel_rfl) (by omega) (fun n cs x h => inst_of h) (fun u => rfl) h
  exact ⟨A, us, c, rfl, ⟨e1, e5⟩, e2⟩
end Go.Proofs.YtaclidjhgpkmpaaDoor.My
namespace Go.Proofs.YtaclidjhgpkmpaaDoor
open Go.ChangeShapes Go.WideShapes Go.ChangeAt Go.RowKit My
theorem own_AsmInsts : ownKnob Tryd.prog.godebug = none := by kernel_rfl
theorem laidOut_AsmInsts : laidOutB Tryd.prog = true := by kernel_rfl
noncomputable def laid_AsmInsts : List (String × DataW Unit) := [("cotterel/inst.fields", Rows.laid_cotterel_inst_fields), ("unicode/utf8.acceptRanges", Rows.laid_unicode_utf8_acceptRanges), ("unicode.White_Space", Rows.laid_unicode_White_Space), ("strings.asciiSpace", Rows.laid_strings_asciiSpace), ("unicode/utf8.first", Rows.laid_unicode_utf8_first)]
set_option maxRecDepth 100000 in
theorem lifted_AsmInsts (os : Os) (started : os.Started) (H : Type) (enc : TypeId × Value → H) :
    ReturnsInHanded {} Tryd.checked os 3 .any (fun w args => (Rows.asmInstsSpec.pre enc Tryd.prog Tryd.f3 [] false w args ∧ laidMetH Tryd.prog laid_AsmInsts w) ∧ sizedMet enc Tryd.prog Tryd.f3 (OpenSpec.ofChange Rows.asmInstsSpec) false w args) (Rows.asmInstsSpec.post enc Tryd.prog Tryd.f3 false true false false) := by
  refine handed_shaped (C := Tryd.checked) (X := fun w _ => laidMetH Tryd.prog laid_AsmInsts w) (fun _ _ _ hh h => h.of_heap hh) own_AsmInsts started (by kernel_rfl) Tryd.func3
    (ChangeSpec.witness_shaped (enc := enc) (C := Tryd.checked) (os := os) (X := fun w _ => laidMetH Tryd.prog laid_AsmInsts w) false (World.laidAll Tryd.prog os laid_AsmInsts) #[.slice none 0 0] 8 (World.laidAll_os _ _ _)
      (World.shaped_of_ZipB (by kernel_rfl) (by kernel_rfl)) (by kernel_rfl) (by kernel_rfl) (by kernel_rfl)
      (by rw [MakeChecks.laidMetH_plain _ _ _ (by kernel_rfl)]; exact laidMet_laidAll _ (by kernel_rfl) (by kernel_rfl))) ?_
  intro W base args ds gs before hval0 hW hcnd hsz0 hsh hlaid _
  obtain ⟨mx, hst0⟩ := start_any W hsh hlaid
  have hsz : (DataW.weightsEach Tryd.prog (Tryd.f3.params.toList ++ Rows.asmInstsSpec.plain.varTypes Tryd.prog) (ds ++ gs)).all (· ≤ reachBytes) = true := hsz0
  have hval : ∀ (j : Nat) t v, Tryd.f3.params[j]? = some t → args[j]? = some v → Value.okWide Tryd.prog W .any base t v := hval0
  have hW' := hW
  obtain ⟨p, q, hA0, hV, rfl, hfz, hnd⟩ := hW
  have hA : DataW.TrodAll enc Tryd.prog W 0 (fun _ => true) true Tryd.f3.params.toList args.toList ds p := hA0
  rw [Tryd.params3] at hA hval hsz
  obtain ⟨v0, vs0, d0, ds0, p0, q0, hargs, rfl, rfl, h0, r0⟩ := trodAll_cons hA
  obtain ⟨rfl, rfl, rfl⟩ := trodAll_nil r0
  obtain rfl : args = #[v0] := by cases args; simp_all
  obtain ⟨rfl, rfl⟩ := trodVars_none hV
  have ok0 := hval 0 22 v0 rfl rfl
  have lt0 : ∀ x ∈ p0, x.block < W.heap.size := fun x hx => by simpa using hW'.lt x (by simp [hx])
  clear hA0 hval0 hsz0
  obtain ⟨A, gs, c, rfl, hx, hm1⟩ := open_insts ok0 h0
  refine (asmInsts_any c A gs mx W hst0 hx hm1).mono fun e W' ⟨he, bel⟩ => ?_
  subst he
  exact ⟨_, rfl, _, _, _, [], _, [], hW', trodAll_mk1 (shut_bool Tryd.underlying4 _), (trodAll_cons_mk (Below.trod laidOut_AsmInsts (by kernel_rfl) (of_decide_eq_true (by kernel_rfl)) h0 bel lt0) trodAll_mk0), rfl, bel.frame _, fun h => by cases h⟩
theorem asmInsts_holds : Rows.AsmInstsSaid :=
  OpenClaim.holds_of_wide 3 Tryd.f3 rfl rfl rfl rfl rfl rfl rfl ⟨rfl, rfl, rfl, rfl, rfl⟩ rfl rfl rfl rfl rfl (by kernel_rfl) Tryd.func3 (by kernel_rfl)
    (of_decide_eq_true (by kernel_rfl)) (by unfold Func.isWrapper; first | (rw [if_pos (by decide +kernel)]; kernel_rfl) | (rw [if_neg (by decide +kernel)]; exact ⟨rfl, rfl⟩))
    (fun os started H enc _ => lifted_AsmInsts os started H enc)
#print axioms asmInsts_holds
theorem card_asmInsts : Rows.AsmInstsCardSaid :=
  Claim7.holds_tied_plain_at .later [] [.data, .data, .listed, .data, .pinned] true (true, "c80b4d8879ee96991ee18a29920e093ee7a5f8a4ffd548ecceb1221a4f0c2efc") false
    asmInsts_holds (fun _ h => by cases h) (by kernel_rfl) (fun _ h => by cases h) asmInsts_row_tie rfl ⟨rfl, rfl⟩ (by kernel_rfl) rfl
    (fun f fn hf hfn => by
      obtain rfl : f = 3 := Option.some.inj ((show Tryd.prog.funcNamed "cotterel/cotterellaw08.AsmInsts" = some 3 by kernel_rfl).symm.trans hf) |>.symm
      obtain rfl : fn = Tryd.f3 := (Option.some.inj (Tryd.func3.symm.trans hfn)).symm
      exact ⟨by kernel_rfl, fun j t ht => by
        rw [Tryd.params3] at ht
        have hm : t ∈ [22] := by simpa using Array.mem_of_getElem? ht
        have hall : ([22].all fun u => !Tryd.prog.wantsStandIn u) = true := by kernel_rfl
        exact (show Tryd.prog.wantsStandIn t = false by simpa using List.all_eq_true.1 hall t hm)⟩)
    (by kernel_rfl)
#print axioms card_asmInsts
end Go.Proofs.YtaclidjhgpkmpaaDoor
