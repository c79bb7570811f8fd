/- The plain law of texts: what is printed is read again, by the program's way and by the reference's. -/
import Derived.Test.YtaclidjhgpkmpaaDoorTextNumB
import Derived.Test.YtaclidjhgpkmpaaDoorTextPrint
import Derived.Lib.SplitLaws
set_option linter.unusedVariables false
set_option linter.unusedSimpArgs false
namespace Go.Proofs.YtaclidjhgpkmpaaDoor.My
open Go.RowKit
/-- The four numbers of an instruction. -/
structure Q4 where
  rd : Int
  ra : Int
  rb : Int
  im : Int
def Q4.put (q : Q4) (c n : Int) : Q4 := if c = 100 then ⟨n, q.ra, q.rb, q.im⟩ else if c = 97 then ⟨q.rd, n, q.rb, q.im⟩ else if c = 98 then ⟨q.rd, q.ra, n, q.im⟩ else ⟨q.rd, q.ra, q.rb, n⟩
def Q4.at (q : Q4) (c : Int) : Int := valV q.rd q.ra q.rb q.im c
abbrev q0 : Q4 := ⟨0, 0, 0, 0⟩
def insQ (op : Int) (q : Q4) : Array Value := insA op q.rd q.ra q.rb q.im
def printQ (op : Int) (q : Q4) : List UInt8 := printV op q.rd q.ra q.rb q.im
theorem ins_put (op : Int) (q : Q4) (c n : Int) : (insQ op q).setIfInBounds (slotV c) (.int .i64 n) = insQ op (q.put c n) := by
  unfold slotV Q4.put
  repeat' split
  all_goals rfl
/- The first word, and what stands behind the first blank. -/
def headV (s : List UInt8) : List UInt8 := s.takeWhile (· != 32)
def restV (s : List UInt8) : List UInt8 := (s.dropWhile (· != 32)).drop 1
theorem index_one_miss (c : UInt8) : ∀ s : List UInt8, c ∉ s → Lib.index s [c] = -1
  | [], _ => rfl
  | b :: l, h => by
    rw [Lib.index, index_one_miss c l (fun q => h (List.mem_cons_of_mem _ q))]
    have : ([c] : List UInt8).isPrefixOf (b :: l) = false := by
      simp only [List.isPrefixOf, Bool.and_true, beq_eq_false_iff_ne]
      exact fun q => h (by rw [q]; exact List.mem_cons_self ..)
    rw [this]
    rfl
theorem index_one_hit (c : UInt8) (r : List UInt8) : ∀ s : List UInt8, c ∉ s → Lib.index (s ++ c :: r) [c] = s.length
  | [], _ => by
    rw [List.nil_append, Lib.index]
    have : ([c] : List UInt8).isPrefixOf (c :: r) = true := by simp [List.isPrefixOf]
    rw [this]
    rfl
  | b :: l, h => by
    rw [List.cons_append, Lib.index, index_one_hit c r l (fun q => h (List.mem_cons_of_mem _ q))]
    have : ([c] : List UInt8).isPrefixOf (b :: (l ++ c :: r)) = false := by
      simp only [List.isPrefixOf, Bool.and_true, beq_eq_false_iff_ne]
      exact fun q => h (by rw [q]; exact List.mem_cons_self ..)
    rw [this]
    rw [if_neg (by decide), if_neg (by simp)]
    simp
theorem head_rest : ∀ s : List UInt8, (32 ∉ s ∧ headV s = s ∧ restV s = []) ∨ s = headV s ++ 32 :: restV s
  | [] => .inl ⟨by simp, rfl, rfl⟩
  | b :: l => by
    by_cases h : b = 32
    · right
      subst h
      rfl
    · have e1 : headV (b :: l) = b :: headV l := by unfold headV; rw [List.takeWhile_cons, if_pos (by simpa using h)]
      have e2 : restV (b :: l) = restV l := by unfold restV; rw [List.dropWhile_cons, if_pos (by simpa using h)]
      rw [e1, e2]
      rcases head_rest l with ⟨h1, h2, h3⟩ | h1
      · left
        exact ⟨by simp [h1]; exact fun q => h q.symm, by rw [h2], h3⟩
      · right
        rw [List.cons_append, ← h1]
theorem head_no (s : List UInt8) : (32 : UInt8) ∉ headV s := by
  induction s with
  | nil => intro h; cases h
  | cons b l ih =>
    intro h
    unfold headV at h ih
    rw [List.takeWhile_cons] at h
    by_cases q : b = 32
    · rw [if_neg (by rw [q]; decide)] at h; cases h
    · rw [if_pos (by simpa using q)] at h
      rcases List.mem_cons.1 h with h | h
      · exact q h.symm
      · exact ih h
theorem cut_eq (s : List UInt8) : (Lib.cut s [32]).1 = headV s ∧ (Lib.cut s [32]).2.1 = restV s := by
  unfold Lib.cut
  rcases head_rest s with ⟨h1, h2, h3⟩ | h
  · rw [index_one_miss 32 s h1, if_neg (by decide), h2, h3]
    exact ⟨rfl, rfl⟩
  · have hi := index_one_hit 32 (restV s) (headV s) (head_no s)
    rw [← h] at hi
    rw [hi, if_pos (by omega)]
    have e : ((headV s).length : Int).toNat = (headV s).length := by omega
    rw [e]
    have hl : (headV s ++ 32 :: restV s).take (headV s).length = headV s := by simp
    have hd : (headV s ++ 32 :: restV s).drop ((headV s).length + 1) = restV s := by simp [List.drop_append]
    rw [← h] at hl hd
    exact ⟨hl, hd⟩
theorem head_app {n r : List UInt8} (h : (32 : UInt8) ∉ n) : headV (n ++ 32 :: r) = n ∧ restV (n ++ 32 :: r) = r := by
  induction n with
  | nil => exact ⟨rfl, rfl⟩
  | cons b l ih =>
    have hb : ¬ b = 32 := fun q => h (by rw [q]; exact List.mem_cons_self ..)
    obtain ⟨i1, i2⟩ := ih (fun q => h (List.mem_cons_of_mem _ q))
    rw [List.cons_append]
    unfold headV restV at *
    rw [List.takeWhile_cons, if_pos (by simpa using hb), List.dropWhile_cons, if_pos (by simpa using hb), i1, i2]
    exact ⟨rfl, rfl⟩
theorem head_all {n : List UInt8} (h : (32 : UInt8) ∉ n) : headV n = n ∧ restV n = [] := by
  rcases head_rest n with ⟨_, h2⟩ | h1
  · exact h2
  · exact absurd (by rw [h1]; simp) h
/- Pieces between a comma and a blank. -/
def splitV (s : List UInt8) : List (List UInt8) := Lib.split s [44, 32]
theorem split_bytes (s : List UInt8) : Lib.splitB ⟨#[44, 32]⟩ 0 (Lib.countB (bs s) ⟨#[44, 32]⟩) (bs s) = (splitV s).map bs := by
  have h := Lib.splitB_data ⟨#[44, 32]⟩ 0 (Lib.countB (bs s) ⟨#[44, 32]⟩) (bs s)
  have h2 : Lib.splitK [44, 32] 0 (Lib.count s [44, 32]) s = splitV s := rfl
  have h3 := congrArg (List.map bs) h
  rw [List.map_map] at h3
  have e : (bs ∘ fun x : ByteArray => x.data.toList) = id := by
    funext x
    rfl
  rw [e, List.map_id] at h3
  rw [h3]
  rfl
theorem split_len (s : List UInt8) : (splitV s).length = Lib.countB (bs s) ⟨#[44, 32]⟩ + 1 := by
  have h := Lib.splitB_all ⟨#[44, 32]⟩ (by decide) 0 _ (bs s) rfl
  rw [split_bytes, List.length_map] at h
  exact h
theorem index_two_miss : ∀ s : List UInt8, (44 : UInt8) ∉ s → Lib.index s [44, 32] = -1
  | [], _ => rfl
  | b :: l, h => by
    rw [Lib.index, index_two_miss l (fun q => h (List.mem_cons_of_mem _ q))]
    have : ([44, 32] : List UInt8).isPrefixOf (b :: l) = false := by
      simp only [List.isPrefixOf, Bool.and_eq_false_iff, beq_eq_false_iff_ne]
      exact .inl fun q => h (by rw [q]; exact List.mem_cons_self ..)
    rw [this]
    rfl
theorem index_two_hit (r : List UInt8) : ∀ s : List UInt8, (44 : UInt8) ∉ s → Lib.index (s ++ 44 :: 32 :: r) [44, 32] = s.length
  | [], _ => by
    rw [List.nil_append, Lib.index]
    have : ([44, 32] : List UInt8).isPrefixOf (44 :: 32 :: r) = true := by simp [List.isPrefixOf]
    rw [this]
    rfl
  | b :: l, h => by
    rw [List.cons_append, Lib.index, index_two_hit r l (fun q => h (List.mem_cons_of_mem _ q))]
    have : ([44, 32] : List UInt8).isPrefixOf (b :: (l ++ 44 :: 32 :: r)) = false := by
      simp only [List.isPrefixOf, Bool.and_eq_false_iff, beq_eq_false_iff_ne]
      exact .inl fun q => h (by rw [q]; exact List.mem_cons_self ..)
    rw [this]
    rw [if_neg (by decide), if_neg (by simp)]
    simp
theorem joinP_cons (p y : List UInt8) (r : List (List UInt8)) : Lib.join (p :: y :: r) [44, 32] = p ++ 44 :: 32 :: Lib.join (y :: r) [44, 32] := by
  simp [Lib.join, List.intercalate, List.intersperse]
theorem split_join : ∀ (ps : List (List UInt8)) (p : List UInt8), (∀ x ∈ p :: ps, (44 : UInt8) ∉ x) → splitV (Lib.join (p :: ps) [44, 32]) = p :: ps
  | [], p, h => by
    have hm := index_two_miss p (h p (List.mem_cons_self ..))
    rw [Lib.join_one]
    unfold splitV Lib.split
    rw [Lib.count_miss hm]
    rfl
  | y :: r, p, h => by
    have ih := split_join r y (fun x hx => h x (List.mem_cons_of_mem _ hx))
    rw [joinP_cons]
    have hi := index_two_hit (Lib.join (y :: r) [44, 32]) p (h p (List.mem_cons_self ..))
    unfold splitV Lib.split at ih ⊢
    have hd : (p ++ 44 :: 32 :: Lib.join (y :: r) [44, 32]).drop (p.length + 2) = Lib.join (y :: r) [44, 32] := by simp [List.drop_append]
    rw [Lib.count_hit (by simp) hi]
    have e : ([44, 32] : List UInt8).length = 2 := rfl
    rw [e, hd, Nat.add_comm, Lib.splitK, hi, if_neg (by simp)]
    have e2 : ((p.length : Int)).toNat = p.length := by omega
    rw [e2, e, hd, ih]
    simp
def trimR (d : List UInt8) : List UInt8 := Lib.trimPrefix d [114]
theorem trim_cons (d : List UInt8) : trimR (114 :: d) = d := by
  unfold trimR Lib.trimPrefix Lib.hasPrefix
  rw [if_pos (by simp [List.isPrefixOf])]
  rfl
/-- The text of a field's number. -/
def bareV (c : UInt8) (d : List UInt8) : List UInt8 := if c = 105 then d else trimR d
/-- The program's way through the fields. -/
def goP : List UInt8 → List (List UInt8) → Q4 → Option Q4
  | [], _, q => some q
  | _ :: _, [], _ => none
  | c :: fl, d :: l, q => if (parseV (bs (bareV c d))).2 = 0 then goP fl l (q.put (c.toNat : Int) (parseV (bs (bareV c d))).1) else none
/- The reference's way. -/
def digS : Nat → List UInt8 → Int → Int
  | 0, _, n => n
  | _ + 1, [], n => n
  | b + 1, c :: r, n => if 48 ≤ c.toNat ∧ c.toNat ≤ 57 then digS b r (10 * n + ((c.toNat : Int) - 48)) else n
def numS (l : List UInt8) : Int := if l.head? = some 45 then -(digS 9 (l.drop 1) 0) else digS 9 l 0
def sufV : List UInt8 → List (List UInt8)
  | [] => []
  | c :: r => if c = 32 then r :: sufV r else sufV r
def bareR (c : UInt8) (t : List UInt8) : List UInt8 := if c = 105 then t else t.drop 1
def goR : List UInt8 → List (List UInt8) → Q4 → Q4
  | [], _, q => q
  | _ :: _, [], q => q
  | c :: fl, t :: ts, q => goR fl ts (q.put (c.toNat : Int) (numS (bareR c t)))
structure PR where
  op : Int
  q : Q4
  e : Int
def doneV (op : Int) (q : Q4) (s : List UInt8) : PR := if printQ op q = s then ⟨op, q, 0⟩ else ⟨0, q0, 2⟩
def parP (s : List UInt8) : PR :=
  if opV (headV s) = 0 then ⟨0, q0, 9⟩ else
    match goP (fieldsV (formV (opV (headV s) : Nat))) (splitV (restV s)) q0 with
    | none => ⟨0, q0, 2⟩
    | some q => doneV (opV (headV s) : Nat) q s
def parR (s : List UInt8) : PR :=
  if opV (headV s) = 0 then ⟨0, q0, 9⟩ else doneV (opV (headV s) : Nat) (goR (fieldsV (formV (opV (headV s) : Nat))) (sufV s) q0) s
/- What is printed. -/
def putAll (v : Int → Int) : List UInt8 → Q4 → Q4
  | [], q => q
  | c :: fl, q => putAll v fl (q.put (c.toNat : Int) (v (c.toNat : Int)))
def partW (v : Int → Int) (c : UInt8) : List UInt8 := if c = 105 then decL (v (c.toNat : Int)) else 114 :: decL (v (c.toNat : Int))
theorem dec_bytes (n : Int) : ∀ c ∈ decL n, c = 45 ∨ (48 ≤ c.toNat ∧ c.toNat ≤ 57) := by
  intro c hc
  unfold decL at hc
  split at hc
  · rcases List.mem_cons.1 hc with h | h
    · exact .inl h
    · exact .inr (digP_digs _ _ h)
  · exact .inr (digP_digs _ _ hc)
theorem part_bytes (v : Int → Int) (f : UInt8) : ∀ c ∈ partW v f, c ≠ 44 ∧ c ≠ 32 := by
  intro c hc
  have key : ∀ n, c ∈ decL n → c ≠ 44 ∧ c ≠ 32 := fun n h => by
    rcases dec_bytes n c h with h | h
    · subst h; decide
    · exact ⟨fun q => by subst q; exact absurd h.1 (by decide), fun q => by subst q; exact absurd h.1 (by decide)⟩
  unfold partW at hc
  split at hc
  · exact key _ hc
  · rcases List.mem_cons.1 hc with h | h
    · subst h; decide
    · exact key _ h
theorem bare_part (v : Int → Int) (c : UInt8) : bareV c (partW v c) = decL (v (c.toNat : Int)) := by
  unfold bareV partW
  by_cases h : c = 105
  · rw [if_pos h, if_pos h]
  · rw [if_neg h, if_neg h, trim_cons]
theorem goP_parts (v : Int → Int) (hv : ∀ c, -9223372036854775808 ≤ v c ∧ v c ≤ 9223372036854775807) : ∀ (fl : List UInt8) (q : Q4), goP fl (fl.map (partW v)) q = some (putAll v fl q)
  | [], q => rfl
  | c :: fl, q => by
    rw [List.map_cons, goP, bare_part, parse_decL _ (hv _).1 (hv _).2, if_pos rfl, goP_parts v hv fl]
    rfl
theorem digS_app (B : List UInt8) (hB : B = [] ∨ ∃ r, B = 44 :: r) : ∀ (D : List UInt8) (b : Nat) (n : Int), (∀ c ∈ D, 48 ≤ c.toNat ∧ c.toNat ≤ 57) → D.length ≤ b → digS b (D ++ B) n = decF n D
  | [], b, n, _, _ => by
    rw [List.nil_append]
    cases b with
    | zero => rfl
    | succ b =>
      rcases hB with rfl | ⟨r, rfl⟩
      · rfl
      · rw [digS, if_neg (by decide)]; rfl
  | c :: D, b, n, h, hl => by
    cases b with
    | zero => simp at hl
    | succ b =>
      rw [List.cons_append, digS, if_pos (h c (List.mem_cons_self ..)), digS_app B hB D b _ (fun x hx => h x (List.mem_cons_of_mem _ hx)) (by simpa using hl)]
      rfl
theorem numS_dec (n : Int) (h : n.natAbs < 10 ^ 9) (B : List UInt8) (hB : B = [] ∨ ∃ r, B = 44 :: r) : numS (decL n ++ B) = n := by
  have hp := digP_pos n.natAbs
  have hl := digP_len 9 n.natAbs (by decide) h
  have hd := decF_digP n.natAbs
  unfold numS decL
  by_cases h0 : n < 0
  · rw [if_pos h0, List.cons_append, if_pos (show (45 :: (digP n.natAbs ++ B)).head? = some 45 from rfl), List.drop_one, List.tail_cons, digS_app B hB _ 9 0 (digP_digs _) hl, hd]
    omega
  · rw [if_neg h0]
    have : ¬ (digP n.natAbs ++ B).head? = some 45 := fun q => by
      obtain ⟨x, r, e⟩ := List.exists_cons_of_length_pos hp
      rw [e] at q
      have hx := digP_digs n.natAbs x (by rw [e]; exact List.mem_cons_self ..)
      have : x = 45 := by simpa using q
      subst this
      exact absurd hx.1 (by decide)
    rw [if_neg this, digS_app B hB _ 9 0 (digP_digs _) hl, hd]
    omega
theorem numR_part (v : Int → Int) (c : UInt8) (h : (v (c.toNat : Int)).natAbs < 10 ^ 9) (B : List UInt8) (hB : B = [] ∨ ∃ r, B = 44 :: r) : numS (bareR c (partW v c ++ B)) = v (c.toNat : Int) := by
  unfold bareR partW
  by_cases q : c = 105
  · rw [if_pos q, if_pos q]; exact numS_dec _ h B hB
  · rw [if_neg q, if_neg q, List.cons_append, List.drop_one, List.tail_cons]; exact numS_dec _ h B hB
theorem suf_skip {p r : List UInt8} (h : ∀ c ∈ p, c ≠ 32) : sufV (p ++ r) = sufV r := by
  induction p with
  | nil => rfl
  | cons b p ih => rw [List.cons_append, sufV, if_neg (h b (List.mem_cons_self ..)), ih (fun c hc => h c (List.mem_cons_of_mem _ hc))]
theorem goR_parts (v : Int → Int) (hv : ∀ c, (v c).natAbs < 10 ^ 9) : ∀ (fl : List UInt8) (c : UInt8) (q : Q4), goR (c :: fl) (Lib.join ((c :: fl).map (partW v)) [44, 32] :: sufV (Lib.join ((c :: fl).map (partW v)) [44, 32])) q = putAll v (c :: fl) q
  | [], c, q => by
    have := numR_part v c (hv _) [] (.inl rfl)
    rw [List.append_nil] at this
    rw [List.map_cons, List.map_nil, Lib.join_one, goR, this]
    rfl
  | d :: fl, c, q => by
    rw [List.map_cons, List.map_cons, joinP_cons, goR, numR_part v c (hv _) _ (.inr ⟨_, rfl⟩), suf_skip (fun x hx => (part_bytes v c x hx).2), sufV, if_neg (by decide), sufV, if_pos rfl]
    have := goR_parts v hv fl d (q.put (c.toNat : Int) (v (c.toNat : Int)))
    rw [List.map_cons] at this
    rw [this]
    rfl
end Go.Proofs.YtaclidjhgpkmpaaDoor.My
