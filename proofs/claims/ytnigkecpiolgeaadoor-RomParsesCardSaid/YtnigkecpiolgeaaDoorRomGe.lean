import Derived.Test.YtnigkecpiolgeaaDoorRomGd
import Derived.Test.YtnigkecpiolgeaaDoorRomGb
import Derived.Test.YtnigkecpiolgeaaDoorRomGa
import Derived.Deep.Slices
import Derived.Test.YtnigkecpiolgeaaDoorTie
import Derived.Test.YtnigkecpiolgeaaDoorCards
import Derived.WalkKit
import Derived.ProofKit
import Derived.Handy
import Derived.Lay
import Derived.SevenTiedAt
import Derived.SizedLaws
/- Plain: the lines of a text that is lines; rows of segments; an image's text, read. -/
set_option linter.unusedVariables false
set_option linter.unusedSimpArgs false
namespace Go.Proofs.YtnigkecpiolgeaaDoor.My
open Go.RowKit
theorem bAt_get {l : List UInt8} {i : Nat} {c : UInt8} (h : l[i]? = some c) : bAt (bs l) i = c.toNat := by
  obtain ⟨h1, h2⟩ := List.getElem?_eq_some_iff.1 h
  rw [bs_at h1, h2]
theorem ten_iff (c : UInt8) : c.toNat = 10 ↔ c = 10 := by
  constructor
  · intro h
    apply UInt8.toNat_inj.1
    rw [h]; rfl
  · rintro rfl; rfl
def feedsL : List UInt8 → Nat
  | [] => 0
  | c :: r => (if c = 10 then 1 else 0) + feedsL r
def plainL (l : List UInt8) : Bool := l.all fun c => okc c.toNat
def lnL : List UInt8 → List UInt8 → List (List UInt8)
  | _, [] => []
  | acc, c :: r => if c = 10 then acc :: lnL [] r else lnL (acc ++ [c]) r
theorem feeds_bs (l : List UInt8) : ∀ (b i : Nat), i + b = l.length → feedsR (bs l) b i = feedsL (l.drop i)
  | 0, i, h => by rw [List.drop_eq_nil_of_le (by omega)]; rfl
  | b + 1, i, h => by
    obtain ⟨c, hc⟩ : ∃ c, l[i]? = some c := ⟨_, List.getElem?_eq_getElem (by omega)⟩
    rw [feedsR, drop_cons hc, feedsL, feeds_bs l b (i + 1) (by omega), bAt_get hc]
    by_cases q : c = 10
    · rw [if_pos ((ten_iff c).2 q), if_pos q]
    · rw [if_neg (fun x => q ((ten_iff c).1 x)), if_neg q]
theorem plain_bs (l : List UInt8) : ∀ (b i : Nat), i + b = l.length → plainR (bs l) b i = plainL (l.drop i)
  | 0, i, h => by rw [List.drop_eq_nil_of_le (by omega)]; rfl
  | b + 1, i, h => by
    obtain ⟨c, hc⟩ : ∃ c, l[i]? = some c := ⟨_, List.getElem?_eq_getElem (by omega)⟩
    rw [plainR, drop_cons hc, plain_bs l b (i + 1) (by omega), bAt_get hc]
    rfl
theorem ext_bs (l : List UInt8) (i j : Nat) : (bs l).extract i j = bs ((l.drop i).take (j - i)) := by
  apply ByteArray.ext
  apply Array.ext'
  rw [bs_ext]
  simp [bs]
theorem lines_bs (l : List UInt8) : ∀ (b i F : Nat), i + b = l.length → F ≤ i → linesR (bs l) b i F = (lnL ((l.drop F).take (i - F)) (l.drop i)).map bs
  | 0, i, F, h, _ => by rw [List.drop_eq_nil_of_le (show l.length ≤ i by omega)]; rfl
  | b + 1, i, F, h, hF => by
    obtain ⟨c, hc⟩ : ∃ c, l[i]? = some c := ⟨_, List.getElem?_eq_getElem (by omega)⟩
    rw [linesR, drop_cons hc, lnL, bAt_get hc]
    by_cases q : c = 10
    · rw [if_pos ((ten_iff c).2 q), if_pos q, List.map_cons, ext_bs, lines_bs l b (i + 1) (i + 1) (by omega) (by omega)]
      simp
    · rw [if_neg (fun x => q ((ten_iff c).1 x)), if_neg q, lines_bs l b (i + 1) F (by omega) (by omega)]
      congr 2
      rw [show i + 1 - F = (i - F) + 1 by omega, List.take_add_one, List.getElem?_drop, show F + (i - F) = i by omega, hc]
      rfl
/-- The lines of a text, or what is wrong, over its bytes. -/
def linesP (l : List UInt8) : List (List UInt8) × Int :=
  if 65536 < l.length ∨ 4096 < feedsL l then ([], 4) else if (l ≠ [] ∧ l.getLast? ≠ some 10) ∨ plainL l = false then ([], 2) else (lnL [] l, 0)
theorem linesV_bs (l : List UInt8) : linesV (bs l) = ((linesP l).1.map bs, (linesP l).2) := by
  have e1 : (longL (bs l)) ↔ (65536 < l.length ∨ 4096 < feedsL l) := by
    unfold longL
    rw [bs_size, feeds_bs l l.length 0 (by omega), List.drop_zero]
  have e2 : (formL (bs l)) ↔ ((l ≠ [] ∧ l.getLast? ≠ some 10) ∨ plainL l = false) := by
    unfold formL
    rw [bs_size, plain_bs l l.length 0 (by omega), List.drop_zero]
    have : (0 < l.length ∧ bAt (bs l) (l.length - 1) ≠ 10) ↔ (l ≠ [] ∧ l.getLast? ≠ some 10) := by
      constructor
      · rintro ⟨h1, h2⟩
        refine ⟨List.length_pos_iff.1 h1, fun q => h2 ?_⟩
        rw [List.getLast?_eq_getElem?] at q
        rw [bAt_get q]; rfl
      · rintro ⟨h1, h2⟩
        have h3 := List.length_pos_iff.2 h1
        refine ⟨h3, fun q => h2 ?_⟩
        rw [List.getLast?_eq_getElem?, List.getElem?_eq_getElem (by omega)]
        rw [bs_at (by omega)] at q
        rw [(ten_iff _).1 q]
    rw [this]
  unfold linesV linesP
  by_cases q1 : longL (bs l)
  · rw [if_pos q1, if_pos (e1.1 q1)]; rfl
  · rw [if_neg q1, if_neg (fun x => q1 (e1.2 x))]
    by_cases q2 : formL (bs l)
    · rw [if_pos q2, if_pos (e2.1 q2)]; rfl
    · rw [if_neg q2, if_neg (fun x => q2 (e2.2 x)), lines_bs _ _ _ _ (by rw [bs_size]; omega) (Nat.le_refl _)]
      rfl
theorem ln_app : ∀ (p acc r : List UInt8), (∀ c ∈ p, c ≠ 10) → lnL acc (p ++ 10 :: r) = (acc ++ p) :: lnL [] r
  | [], acc, r, _ => by rw [List.nil_append, lnL, if_pos rfl, List.append_nil]
  | c :: p, acc, r, h => by
    rw [List.cons_append, lnL, if_neg (h c (by simp)), ln_app p (acc ++ [c]) r (fun c hc => h c (by simp [hc]))]
    simp
theorem ln_flat : ∀ (ls : List (List UInt8)), (∀ l ∈ ls, ∀ c ∈ l, c ≠ 10) → lnL [] (ls.flatMap (· ++ [10])) = ls
  | [], _ => rfl
  | l :: r, h => by
    rw [List.flatMap_cons, List.append_assoc, List.singleton_append, ln_app l [] _ (h l (by simp)), ln_flat r (fun l hl => h l (by simp [hl]))]
    rfl
theorem ln_back : ∀ (l acc : List UInt8), (l = [] → acc = []) → (l = [] ∨ l.getLast? = some 10) → (∀ c ∈ acc, c ≠ 10) → acc ++ l = (lnL acc l).flatMap (· ++ [10]) ∧ ∀ x ∈ lnL acc l, ∀ c ∈ x, c ≠ 10
  | [], acc, h0, _, ha => by rw [h0 rfl]; exact ⟨rfl, fun x hx => by cases hx⟩
  | c :: r, acc, h0, hl, ha => by
    have hlast : r = [] ∨ r.getLast? = some 10 := by
      rcases hl with h | h
      · cases h
      · cases r with
        | nil => exact .inl rfl
        | cons a r => right; rwa [List.getLast?_cons_cons] at h
    rw [lnL]
    by_cases q : c = 10
    · rw [if_pos q]
      obtain ⟨h1, h2⟩ := ln_back r [] (fun _ => rfl) hlast (fun c hc => by cases hc)
      refine ⟨?_, fun x hx => ?_⟩
      · rw [List.flatMap_cons, ← h1, q]; simp
      · rcases List.mem_cons.1 hx with rfl | hx
        · exact ha
        · exact h2 x hx
    · rw [if_neg q]
      have hr : r ≠ [] := by
        intro e
        subst e
        rcases hl with h | h
        · cases h
        · simp at h; exact q h
      obtain ⟨h1, h2⟩ := ln_back r (acc ++ [c]) (fun e => absurd e hr) hlast (fun d hd => by
        rcases List.mem_append.1 hd with hd | hd
        · exact ha d hd
        · have : d = c := by simpa using hd
          rw [this]; exact q)
      refine ⟨?_, h2⟩
      rw [← h1]; simp
theorem feeds_flat : ∀ (ls : List (List UInt8)), (∀ l ∈ ls, ∀ c ∈ l, c ≠ 10) → feedsL (ls.flatMap (· ++ [10])) = ls.length := by
  have happ : ∀ (p r : List UInt8), (∀ c ∈ p, c ≠ 10) → feedsL (p ++ r) = feedsL r := by
    intro p r h
    induction p with
    | nil => rfl
    | cons c p ih => rw [List.cons_append, feedsL, if_neg (h c (by simp)), ih (fun c hc => h c (by simp [hc])), Nat.zero_add]
  intro ls
  induction ls with
  | nil => intro _; rfl
  | cons l r ih =>
    intro h
    rw [List.flatMap_cons, List.append_assoc, List.singleton_append, happ l _ (h l (by simp)), feedsL, if_pos rfl, ih (fun l hl => h l (by simp [hl])), List.length_cons]
    omega
/-- A text that is lines of printed bytes is read as these lines. -/
theorem linesP_flat (ls : List (List UInt8)) (h : ∀ l ∈ ls, ∀ c ∈ l, 32 ≤ c.toNat ∧ c.toNat ≤ 126) (h1 : (ls.flatMap (· ++ [10])).length ≤ 65536) (h2 : ls.length ≤ 4096) : linesP (ls.flatMap (· ++ [10])) = (ls, 0) := by
  have h10 : ∀ l ∈ ls, ∀ c ∈ l, c ≠ 10 := fun l hl c hc e => by
    have := (h l hl c hc).1
    rw [e] at this
    exact absurd this (by decide)
  unfold linesP
  rw [if_neg, if_neg, ln_flat ls h10]
  · rintro (⟨hne, hl⟩ | hp)
    · apply hl
      have hls : ls ≠ [] := fun e => hne (by rw [e]; rfl)
      rw [← List.dropLast_concat_getLast hls, List.flatMap_append]
      simp
    · have : plainL (ls.flatMap (· ++ [10])) = true := by
        unfold plainL
        rw [List.all_eq_true]
        intro c hc
        obtain ⟨l, hl, hcl⟩ := List.mem_flatMap.1 hc
        rcases List.mem_append.1 hcl with q | q
        · exact okc_mid (h l hl c q).1 (h l hl c q).2
        · have : c = 10 := by simpa using q
          rw [this]; rfl
      rw [this] at hp; cases hp
  · rw [feeds_flat ls h10]; omega
theorem linesP_back {l : List UInt8} {ls : List (List UInt8)} (h : linesP l = (ls, 0)) : l = ls.flatMap (· ++ [10]) ∧ (∀ x ∈ ls, ∀ c ∈ x, c ≠ 10) ∧ plainL l = true ∧ l.length ≤ 65536 ∧ ls.length ≤ 4096 := by
  unfold linesP at h
  split at h
  · injection h with _ h; cases h
  · rename_i q1
    split at h
    · injection h with _ h; cases h
    · rename_i q2
      injection h with h _
      subst h
      have hl : l = [] ∨ l.getLast? = some 10 := by
        by_cases e : l = []
        · exact .inl e
        · right
          by_cases e2 : l.getLast? = some 10
          · exact e2
          · exact absurd (.inl ⟨e, e2⟩) q2
      obtain ⟨h1, h2⟩ := ln_back l [] (fun _ => rfl) hl (fun c hc => by cases hc)
      have hf := feeds_flat (lnL [] l) h2
      rw [← h1, List.nil_append] at hf
      refine ⟨h1, h2, ?_, by omega, by omega⟩
      cases hp : plainL l with
      | true => rfl
      | false => exact absurd (.inr hp) q2
/-- The rows of a segment's rest. -/
def rowT : Nat → Nat → Nat → List UInt8 → List RowV
  | 0, _, _, _ => []
  | n + 1, k, u, d => if d.length = 0 then [] else ⟨k, u, d.take 16, ckV u (d.take 16)⟩ :: rowT n 2 (u + 16) (d.drop 16)
def rowsS (s : SegV) : List RowV := rowT s.d.length 1 s.at_ s.d
def startR (st : Nat) : RowV := ⟨3, st, [], ckV st []⟩
theorem line_fmt (k u : Nat) (d : List UInt8) (hk : k = 1 ∨ k = 2) (hd : d.length ≠ 0) : lineV (kindW k) u d = fmtL ⟨k, u, d, ckV u d⟩ ++ [10] := by
  unfold lineV partsL fmtL
  rw [if_neg hd, if_neg (by show ¬ k = 3; omega)]
  simp [Lib.join, List.intercalate, List.intersperse]
theorem line_start (st : Nat) : lineV startW st [] = fmtL (startR st) ++ [10] := by
  unfold lineV partsL fmtL startR
  simp [Lib.join, List.intercalate, List.intersperse]
theorem segT_rows : ∀ (n k u : Nat) (d : List UInt8), (k = 1 ∨ k = 2) → segT n (kindW k) u d = (rowT n k u d).flatMap fun r => fmtL r ++ [10]
  | 0, _, _, _, _ => rfl
  | n + 1, k, u, d, hk => by
    rw [segT, rowT]
    by_cases h : d.length = 0
    · rw [if_pos h, if_pos h]; rfl
    · rw [if_neg h, if_neg h, List.flatMap_cons, line_fmt k u _ hk (by rw [List.length_take]; omega)]
      congr 1
      exact segT_rows n 2 (u + 16) (d.drop 16) (.inr rfl)
/-- The rows of an image. -/
def rowsI (st : Nat) (ss : List SegV) : List RowV := ss.flatMap rowsS ++ [startR st]
theorem text_rows {st : Nat} {ss : List SegV} (h : rightV ss = 0) : textV st ss = ((rowsI st ss).map fmtL).flatMap (· ++ [10]) := by
  unfold textV rowsI
  rw [if_pos h, List.map_append, List.flatMap_append, line_start, List.flatMap_map]
  congr 1
  · rw [List.flatMap_assoc]
    congr 1
    funext s
    exact segT_rows s.d.length 1 s.at_ s.d (.inl rfl)
end Go.Proofs.YtnigkecpiolgeaaDoor.My
/- Plain: rows put to an image, forth and back; an image's text is read as that image; what is read is told as it was. -/
set_option linter.unusedVariables false
set_option linter.unusedSimpArgs false
namespace Go.Proofs.YtnigkecpiolgeaaDoor.My
open Go.RowKit
theorem endV_app (ss : List SegV) (s : SegV) : endV (ss ++ [s]) = s.at_ + s.d.length := end_app ss s
/-- Where the rows of a segment's rest end. -/
def lastR (last : RowV) (l : List RowV) : RowV := l.getLast?.getD last
theorem go_step {x : RowV} {r : List RowV} {st : Nat} {ss : List SegV} {last : RowV} {i : Nat} (h : moreV ss last x = 0) (hk : x.kind ≠ 3) : goV (x :: r) st ss last i = goV r st (putV ss x) x (i + 1) := by
  rw [goV, if_pos h, if_neg hk]
theorem go_rest : ∀ (n u : Nat) (d : List UInt8) (rest : List RowV) (st : Nat) (ss : List SegV) (u0 : Nat) (d0 : List UInt8) (last : RowV) (i : Nat), d.length ≤ n → (d.length ≠ 0 → u + d.length ≤ 16384) → (last.kind = 1 ∨ last.kind = 2) → (d.length ≠ 0 → last.b.length = 16 ∧ last.at_ + 16 = u) →
    ∃ last' j, goV (rowT n 2 u d ++ rest) st (ss ++ [⟨u0, d0⟩]) last i = goV rest st (ss ++ [⟨u0, d0 ++ d⟩]) last' j ∧ (last'.kind = 1 ∨ last'.kind = 2)
  | 0, u, d, rest, st, ss, u0, d0, last, i, hn, _, hl, _ => by
    obtain rfl : d = [] := List.eq_nil_of_length_eq_zero (by omega)
    exact ⟨last, i, by rw [List.append_nil]; rfl, hl⟩
  | n + 1, u, d, rest, st, ss, u0, d0, last, i, hn, hu, hl, hc => by
    by_cases h0 : d.length = 0
    · obtain rfl : d = [] := List.eq_nil_of_length_eq_zero h0
      exact ⟨last, i, by rw [List.append_nil, rowT, if_pos h0]; rfl, hl⟩
    · obtain ⟨h1, h2⟩ := hc h0
      rw [rowT, if_neg h0, List.cons_append, go_step _ (by show (2 : Nat) ≠ 3; decide)]
      · have hp : putV (ss ++ [⟨u0, d0⟩]) ⟨2, u, d.take 16, ckV u (d.take 16)⟩ = ss ++ [⟨u0, d0 ++ d.take 16⟩] := by
          unfold putV
          rw [if_neg (by show ¬ (2 : Nat) = 1; decide), if_pos rfl, List.getLast?_append]
          simp
        rw [hp]
        obtain ⟨last', j, e, hk⟩ := go_rest n (u + 16) (d.drop 16) rest st ss u0 (d0 ++ d.take 16) ⟨2, u, d.take 16, ckV u (d.take 16)⟩ (i + 1) (by rw [List.length_drop]; omega) (fun h => by have := hu h0; rw [List.length_drop] at h ⊢; omega) (.inr rfl) (fun h => by
          rw [List.length_drop] at h
          refine ⟨?_, rfl⟩
          show (d.take 16).length = 16
          rw [List.length_take]; omega)
        refine ⟨last', j, ?_, hk⟩
        rw [e, List.append_assoc, List.take_append_drop]
      · unfold moreV
        rw [if_neg, if_neg, if_neg, if_neg, if_neg, if_neg, if_neg]
        · rintro ⟨q, _⟩; cases q
        · show ¬ 16384 < u + (d.take 16).length
          have := hu h0
          rw [List.length_take]; omega
        · rintro ⟨q, _⟩; cases q
        · show ¬ (2 : Nat) = 3; decide
        · exact fun q => q rfl
        · rintro ⟨_, q⟩
          exact q ⟨by omega, h1, h2⟩
        · rintro (q | q)
          · cases q
          · omega
theorem go_seg (s : SegV) (rest : List RowV) (st : Nat) (ss : List SegV) (last : RowV) (i : Nat) (hd : s.d.length ≠ 0) (hu : s.at_ + s.d.length ≤ 16384) (hl : last.kind ≠ 3) (h64 : ss.length ≠ 64) (he : endV ss ≤ s.at_) :
    ∃ last' j, goV (rowsS s ++ rest) st ss last i = goV rest st (ss ++ [s]) last' j ∧ (last'.kind = 1 ∨ last'.kind = 2) := by
  obtain ⟨u, d⟩ := s
  simp only at hd hu he
  obtain ⟨n, hn⟩ : ∃ n, d.length = n + 1 := ⟨d.length - 1, by omega⟩
  unfold rowsS
  simp only
  rw [hn, rowT, if_neg hd, List.cons_append, go_step _ (by show (1 : Nat) ≠ 3; decide)]
  · have hp : putV ss ⟨1, u, d.take 16, ckV u (d.take 16)⟩ = ss ++ [⟨u, d.take 16⟩] := by
      unfold putV
      rw [if_pos rfl]
    rw [hp]
    obtain ⟨last', j, e, hk⟩ := go_rest n (u + 16) (d.drop 16) rest st ss u (d.take 16) ⟨1, u, d.take 16, ckV u (d.take 16)⟩ (i + 1) (by rw [List.length_drop]; omega) (fun h => by rw [List.length_drop] at h ⊢; omega) (.inl rfl) (fun h => by
      rw [List.length_drop] at h
      refine ⟨?_, rfl⟩
      show (d.take 16).length = 16
      rw [List.length_take]; omega)
    refine ⟨last', j, ?_, hk⟩
    rw [e, List.take_append_drop]
  · unfold moreV
    rw [if_neg, if_neg, if_neg, if_neg, if_neg, if_neg, if_neg]
    · rintro ⟨_, q⟩
      have q' : u < endV ss := q
      omega
    · show ¬ 16384 < u + (d.take 16).length
      rw [List.length_take]; omega
    · rintro ⟨_, q⟩; exact h64 q
    · show ¬ (1 : Nat) = 3; decide
    · exact fun q => q rfl
    · rintro ⟨q, _⟩; cases q
    · rintro (q | q)
      · cases q
      · exact hl q
theorem go_all (st : Nat) : ∀ (ss ss0 : List SegV) (last : RowV) (i : Nat), rightR ss (endV ss0) = 0 → last.kind ≠ 3 → ss0.length + ss.length ≤ 64 →
    goV (ss.flatMap rowsS ++ [startR st]) 0 ss0 last i = (st, ss0 ++ ss, 0, 0)
  | [], ss0, last, i, _, hl, _ => by
    rw [List.flatMap_nil, List.nil_append, goV, if_pos, if_pos (show (startR st).kind = 3 from rfl)]
    · have : putV ss0 (startR st) = ss0 := by unfold putV startR; rw [if_neg (by show ¬ (3 : Nat) = 1; decide), if_neg (by show ¬ (3 : Nat) = 2; decide)]
      rw [this, goV, if_pos (show (startR st).kind = 3 from rfl), List.append_nil]
      rfl
    · unfold moreV
      rw [if_neg, if_neg, if_neg, if_pos (show (startR st).kind = 3 from rfl)]
      · exact fun q => q rfl
      · rintro ⟨q, _⟩; cases q
      · rintro (q | q)
        · cases q
        · exact hl q
  | s :: r, ss0, last, i, h, hl, h64 => by
    rw [rightR] at h
    split at h
    · cases h
    · rename_i h1
      split at h
      · cases h
      · rename_i h2
        split at h
        · cases h
        · rename_i h3
          obtain ⟨last', j, e, hk⟩ := go_seg s (r.flatMap rowsS ++ [startR st]) 0 ss0 last i h1 (by omega) hl (by rw [List.length_cons] at h64; omega) (by omega)
          rw [List.flatMap_cons, List.append_assoc, e, go_all st r (ss0 ++ [s]) last' j (by rw [endV_app]; exact h) (by omega) (by rw [List.length_append]; simp at h64 ⊢; omega), List.append_assoc]
          rfl
/-- A segment that may be. -/
theorem right_at : ∀ (ss : List SegV) (L : Nat), rightR ss L = 0 → ∀ s ∈ ss, s.at_ < 4294967296 := fun ss L h s hs => by
  have := (right_le ss L h s hs).2
  omega
theorem rowT_ok : ∀ (n k u : Nat) (d : List UInt8), (k = 1 ∨ k = 2) → u + d.length ≤ 16384 → ∀ r ∈ rowT n k u d, RowOk r
  | 0, _, _, _, _, _, r, h => by cases h
  | n + 1, k, u, d, hk, hu, r, h => by
    rw [rowT] at h
    split at h
    · cases h
    · rename_i h0
      rcases List.mem_cons.1 h with rfl | h
      · refine ⟨.inl ⟨hk, ?_, ?_⟩, by show u < _; omega, ckV_lt _ _⟩
        · show 1 ≤ (d.take 16).length; rw [List.length_take]; omega
        · show (d.take 16).length ≤ 16; rw [List.length_take]; omega
      · by_cases h16 : d.length ≤ 16
        · have : d.drop 16 = [] := List.drop_eq_nil_of_le h16
          rw [this] at h
          cases n with
          | zero => cases h
          | succ n => rw [rowT, if_pos (show ([] : List UInt8).length = 0 from rfl)] at h; cases h
        · exact rowT_ok n 2 (u + 16) (d.drop 16) (.inr rfl) (by rw [List.length_drop]; omega) r h
theorem rowsI_ok {st : Nat} {ss : List SegV} (h : rightR ss 0 = 0) (hst : st < 4294967296) : ∀ r ∈ rowsI st ss, RowOk r := by
  intro r hr
  rcases List.mem_append.1 hr with hr | hr
  · obtain ⟨s, hs, hr⟩ := List.mem_flatMap.1 hr
    exact rowT_ok _ 1 _ _ (.inl rfl) (right_le ss 0 h s hs).2 r hr
  · obtain rfl : r = startR st := by simpa using hr
    exact ⟨.inr ⟨rfl, rfl⟩, hst, ckV_lt _ _⟩
theorem hd_range {k : Nat} (h : k < 16) : 32 ≤ (hd k).toNat ∧ (hd k).toNat ≤ 126 := by
  rw [hd_nat h]
  split <;> omega
theorem hexs_range (d : List UInt8) : ∀ c ∈ hexsL d, 32 ≤ c.toNat ∧ c.toNat ≤ 126 := by
  intro c hc
  unfold hexsL at hc
  obtain ⟨a, _, ha⟩ := List.mem_flatMap.1 hc
  have := a.toNat_lt
  simp only [twoL, List.mem_cons, List.mem_nil_iff, or_false] at ha
  rcases ha with rfl | rfl
  · exact hd_range (by omega)
  · exact hd_range (by omega)
theorem fmt_range {r : RowV} (h : RowOk r) : ∀ c ∈ fmtL r, 32 ≤ c.toNat ∧ c.toNat ≤ 126 := by
  obtain ⟨k, u, d, s⟩ := r
  obtain ⟨h1, h2, h3⟩ := h
  simp only at h1 h2 h3
  have key : ∀ (W : List UInt8) (x : List UInt8), (∀ c ∈ W, 32 ≤ c.toNat ∧ c.toNat ≤ 126) → (∀ c ∈ x, 32 ≤ c.toNat ∧ c.toNat ≤ 126) → ∀ c ∈ W ++ 32 :: x, 32 ≤ c.toNat ∧ c.toNat ≤ 126 := by
    intro W x hW hx c hc
    rcases List.mem_append.1 hc with hc | hc
    · exact hW c hc
    · rcases List.mem_cons.1 hc with rfl | hc
      · decide
      · exact hx c hc
  have kw : ∀ k, ∀ c ∈ kindW k, 32 ≤ c.toNat ∧ c.toNat ≤ 126 := by
    intro k
    unfold kindW segW andW startW
    split <;> decide
  have hs : ∀ c ∈ twoL s, 32 ≤ c.toNat ∧ c.toNat ≤ 126 := by rw [two_one h3]; exact hexs_range _
  have hu : ∀ c ∈ hexL u, 32 ≤ c.toNat ∧ c.toNat ≤ 126 := by rw [hexL_ta h2]; exact hexs_range _
  unfold fmtL
  simp only
  split
  · exact key startW _ (kw 3) (key _ _ hu hs)
  · exact key _ _ (kw k) (key _ _ hu (key _ _ (hexs_range d) hs))
theorem parseV_bs (l : List UInt8) : parseV (bs l) = if (linesP l).2 = 0 then goV ((linesP l).1.map rowV) 0 [] rowZ 0 else (0, [], 0, (linesP l).2.toNat) := by
  unfold parseV rowsV
  rw [linesV_bs]
  simp only [List.map_map]
  rfl
/-- An image's text is read as that image. -/
theorem parse_text {st : Nat} {ss : List SegV} (h : rightV ss = 0) (hst : st < 4294967296) (h1 : (textV st ss).length ≤ 65536) (h2 : (rowsI st ss).length ≤ 4096) : parseV (bs (textV st ss)) = (st, ss, 0, 0) := by
  have h64 : ss.length ≤ 64 := by unfold rightV at h; split at h; cases h; omega
  have hr : rightR ss 0 = 0 := by unfold rightV at h; split at h; cases h; exact h
  have hok := rowsI_ok hr hst
  have ht := text_rows (st := st) h
  rw [ht] at h1
  rw [parseV_bs, ht, linesP_flat _ (by
    intro l hl
    obtain ⟨r, hr, rfl⟩ := List.mem_map.1 hl
    exact fmt_range (hok r hr)) h1 (by rw [List.length_map]; exact h2)]
  rw [if_pos rfl]
  have e : ((rowsI st ss).map fmtL).map rowV = rowsI st ss := by
    rw [List.map_map]
    conv => rhs; rw [← List.map_id (rowsI st ss)]
    apply List.map_congr_left
    intro r hr
    exact row_fmt (hok r hr)
  show goV (((rowsI st ss).map fmtL).map rowV) 0 [] rowZ 0 = _
  rw [e]
  have := go_all st ss [] rowZ 0 hr (by decide) (by simpa using h64)
  rw [List.nil_append] at this
  exact this
end Go.Proofs.YtnigkecpiolgeaaDoor.My
/- Plain: an image's text in which one digit is another one is never read. -/
set_option linter.unusedVariables false
set_option linter.unusedSimpArgs false
namespace Go.Proofs.YtnigkecpiolgeaaDoor.My
open Go.RowKit
/-- One place of two lists of one length is another. -/
theorem set_split {α : Type} : ∀ (A B A' B' : List α) (o : Nat) (c : α), A'.length = A.length → (A ++ B).set o c = A' ++ B' → (A' = A.set o c ∧ B' = B) ∨ (A' = A ∧ ∃ o', B' = B.set o' c) := by
  intro A B A' B' o c hl h
  by_cases q : o < A.length
  · rw [List.set_append_left _ _ q] at h
    obtain ⟨h1, h2⟩ := List.append_inj h (by rw [List.length_set, hl])
    exact .inl ⟨h1.symm, h2.symm⟩
  · rw [List.set_append_right _ _ (by omega)] at h
    obtain ⟨h1, h2⟩ := List.append_inj h hl.symm
    exact .inr ⟨h1.symm, _, h2.symm⟩
theorem hexs_inj : ∀ {X Y : List UInt8}, hexsL X = hexsL Y → X = Y := fun {X Y} h => by
  have h1 := hexP_hexs X
  rw [h, hexP_hexs Y] at h1
  injection h1 with h1
  exact h1.symm
/-- One digit that is another one: one byte that is another one. -/
theorem hexs_set : ∀ (X Y : List UInt8) (o : Nat) (c : UInt8), hexsL Y = (hexsL X).set o c → hexsL Y ≠ hexsL X → ∃ A x B y, X = A ++ x :: B ∧ Y = A ++ y :: B ∧ x ≠ y
  | [], Y, o, c, h, hne => absurd h hne
  | x :: X, Y, o, c, h, hne => by
    have hlen : Y.length = (x :: X).length := by
      have := congrArg List.length h
      rw [List.length_set, hexsL_len, hexsL_len] at this
      omega
    match Y, hlen with
    | y :: Y, hlen =>
      have e1 : hexsL (x :: X) = twoL x.toNat ++ hexsL X := rfl
      have e2 : hexsL (y :: Y) = twoL y.toNat ++ hexsL Y := rfl
      rw [e1, e2] at h
      rcases set_split (twoL x.toNat) (hexsL X) (twoL y.toNat) (hexsL Y) o c rfl h.symm with ⟨_, h2⟩ | ⟨h1, o', h2⟩
      · have hXY := hexs_inj h2
        subst hXY
        refine ⟨[], x, Y, y, rfl, rfl, fun e => hne (by rw [e])⟩
      · have hxy : y = x := by
          have := hexs_inj (X := [y]) (Y := [x]) (by show twoL y.toNat ++ [] = twoL x.toNat ++ []; rw [h1])
          injection this
        subst hxy
        obtain ⟨A, a, B, b, r1, r2, r3⟩ := hexs_set X Y o' c h2 (fun e => hne (by rw [e1, e2, e]))
        exact ⟨y :: A, a, B, b, by rw [r1]; rfl, by rw [r2]; rfl, r3⟩
theorem totV_one (A B : List UInt8) (x : UInt8) : totV (A ++ x :: B) = totV A + x.toNat + totV B := by
  rw [totV_app, totV]; omega
theorem tot_at (u : Nat) : totV (atL u) = totV (ta u) := by unfold atL ta; simp only [totV]; omega
/-- The sum of a row: what makes its bytes come to 0. -/
theorem ck_tot {u : Nat} {d : List UInt8} {s : Nat} (h : ckV u d = s) : (totV (ta u) + totV d + s) % 256 = 0 := by
  unfold ckV sumV at h
  rw [sumR_tot _ _ (by decide), totV_app, tot_at] at h
  omega
theorem tot_ne {A B : List UInt8} {x y : UInt8} {M : Nat} (h1 : (totV (A ++ x :: B) + M) % 256 = 0) (h2 : (totV (A ++ y :: B) + M) % 256 = 0) : x = y := by
  rw [totV_one] at h1 h2
  have hx := x.toNat_lt
  have hy := y.toNat_lt
  apply UInt8.toNat_inj.1
  omega
theorem set_two {α : Type} {l : List α} {o : Nat} {c : α} {i j : Nat} (hij : i ≠ j) {a b a' b' : α} (hi : l[i]? = some a) (hj : l[j]? = some b) (hi' : (l.set o c)[i]? = some a') (hj' : (l.set o c)[j]? = some b') (ha : a ≠ a') (hb : b ≠ b') : False := by
  by_cases q : o = i
  · subst q
    rw [List.getElem?_set_ne hij, hj] at hj'
    exact hb (Option.some.inj hj')
  · rw [List.getElem?_set_ne q, hi] at hi'
    exact ha (Option.some.inj hi')
/-- Two rows whose sums are right are not one digit apart. -/
theorem rows_apart {r x : RowV} {o : Nat} {c : UInt8} (hr : RowOk r) (hx : RowOk x) (h1 : ckV r.at_ r.b = r.sum) (h2 : ckV x.at_ x.b = x.sum) (h : fmtL x = (fmtL r).set o c) : fmtL x = fmtL r := by
  obtain ⟨k, u, d, s⟩ := r
  obtain ⟨k', u', d', s'⟩ := x
  obtain ⟨a1, a2, a3⟩ := hr
  obtain ⟨b1, b2, b3⟩ := hx
  simp only at a1 a2 a3 b1 b2 b3 h1 h2
  have t1 := ck_tot h1
  have t2 := ck_tot h2
  have hs : hexsL [UInt8.ofNat s] = twoL s := (two_one a3).symm
  have hs' : hexsL [UInt8.ofNat s'] = twoL s' := (two_one b3).symm
  have es : totV [UInt8.ofNat s] = s := by rw [totV, totV, toNat_of a3]; rfl
  have es' : totV [UInt8.ofNat s'] = s' := by rw [totV, totV, toNat_of b3]; rfl
  refine Classical.byContradiction fun hne => ?_
  -- the words are one
  have hk : k = k' := by
    refine Classical.byContradiction fun hkk => ?_
    have f1 : ∀ (j : Nat), (fmtL ⟨k', u', d', s'⟩)[j]? = ((fmtL ⟨k, u, d, s⟩).set o c)[j]? := fun j => by rw [h]
    have w : ∀ (k : Nat) (u : Nat) (d : List UInt8) (s : Nat), (k = 1 ∨ k = 2 ∨ k = 3) → (fmtL ⟨k, u, d, s⟩)[1]? = some (if k = 1 then 101 else if k = 2 then 110 else 116) ∧ (fmtL ⟨k, u, d, s⟩)[2]? = some (if k = 1 then 103 else if k = 2 then 100 else 97) := by
      intro k u d s hk
      rcases hk with rfl | rfl | rfl <;> exact ⟨rfl, rfl⟩
    obtain ⟨p1, p2⟩ := w k u d s (by omega)
    obtain ⟨p1', p2'⟩ := w k' u' d' s' (by omega)
    rw [f1] at p1' p2'
    refine set_two (i := 1) (j := 2) (by decide) p1 p2 p1' p2' ?_ ?_
    · rcases (show k = 1 ∨ k = 2 ∨ k = 3 by omega) with rfl | rfl | rfl <;> rcases (show k' = 1 ∨ k' = 2 ∨ k' = 3 by omega) with rfl | rfl | rfl <;> first | exact absurd rfl hkk | decide
    · rcases (show k = 1 ∨ k = 2 ∨ k = 3 by omega) with rfl | rfl | rfl <;> rcases (show k' = 1 ∨ k' = 2 ∨ k' = 3 by omega) with rfl | rfl | rfl <;> first | exact absurd rfl hkk | decide
  subst hk
  have fin : ∀ (X Y : List UInt8) (M : Nat) (o' : Nat), hexsL Y = (hexsL X).set o' c → (totV X + M) % 256 = 0 → (totV Y + M) % 256 = 0 → hexsL Y = hexsL X := by
    intro X Y M o' e m1 m2
    refine Classical.byContradiction fun hn => ?_
    obtain ⟨A, x, B, y, rfl, rfl, hxy⟩ := hexs_set X Y o' c e hn
    exact hxy (tot_ne m1 m2)
  have cons32 : ∀ (p q : List UInt8) (o' : Nat), (32 : UInt8) :: q = ((32 : UInt8) :: p).set o' c → q = p ∨ ∃ o'', q = p.set o'' c := by
    intro p q o' e
    cases o' with
    | zero => rw [List.set_cons_zero] at e; injection e with _ e; exact .inl e
    | succ o' => rw [List.set_cons_succ] at e; injection e with _ e; exact .inr ⟨o', e⟩
  rcases a1 with ⟨hk, d1, d2⟩ | ⟨rfl, rfl⟩
  · have hk3 : ¬ k = 3 := by omega
    have e : ∀ (u : Nat) (d : List UInt8) (s : Nat), fmtL ⟨k, u, d, s⟩ = kindW k ++ 32 :: (hexL u ++ 32 :: (hexsL d ++ 32 :: twoL s)) := fun u d s => by unfold fmtL; rw [if_neg (show ¬ (RowV.mk k u d s).kind = 3 from hk3)]
    rw [e, e] at h
    have hdl : d'.length = d.length := by
      have := congrArg List.length h
      simp only [List.length_set, List.length_append, List.length_cons, hexL_len, hexsL_len] at this
      have e1 : (twoL s).length = 2 := rfl
      have e2 : (twoL s').length = 2 := rfl
      omega
    rw [e, e] at hne
    rcases set_split _ _ _ _ o c rfl h.symm with ⟨_, g⟩ | ⟨_, o1, g⟩
    · exact hne (by rw [g])
    rcases cons32 _ _ o1 g with g | ⟨o2, g⟩
    · exact hne (by rw [g])
    rcases set_split _ _ _ _ o2 c (by rw [hexL_len, hexL_len]) g.symm with ⟨g1, g2⟩ | ⟨g1, o3, g2⟩
    · injection g2 with _ g2
      obtain ⟨g3, g4⟩ := List.append_inj g2 (by rw [hexsL_len, hexsL_len, hdl])
      injection g4 with _ g4
      have gd := hexs_inj g3
      have gs : s' = s := by
        rw [← hs, ← hs'] at g4
        have := congrArg totV (hexs_inj g4)
        rwa [es, es'] at this
      subst gd; subst gs
      rw [hexL_ta a2, hexL_ta b2] at g1
      have := fin (ta u) (ta u') (totV d' + s') o2 g1 (by omega) (by omega)
      rw [hexL_ta a2, hexL_ta b2, this] at hne
      exact hne rfl
    have gu : u' = u := by
      rw [hexL_ta a2, hexL_ta b2] at g1
      have := congrArg be4 (hexs_inj g1)
      rwa [be4_ta a2, be4_ta b2] at this
    subst gu
    rcases cons32 _ _ o3 g2 with g2 | ⟨o4, g2⟩
    · exact hne (by rw [g2])
    rcases set_split _ _ _ _ o4 c (by rw [hexsL_len, hexsL_len, hdl]) g2.symm with ⟨g3, g4⟩ | ⟨g3, o5, g4⟩
    · injection g4 with _ g4
      have gs : s' = s := by
        rw [← hs, ← hs'] at g4
        have := congrArg totV (hexs_inj g4)
        rwa [es, es'] at this
      subst gs
      have := fin d d' (totV (ta u') + s') o4 g3 (by omega) (by omega)
      rw [this] at hne
      exact hne rfl
    have gd := hexs_inj g3
    subst gd
    rcases cons32 _ _ o5 g4 with g4 | ⟨o6, g4⟩
    · exact hne (by rw [g4])
    rw [← hs, ← hs'] at g4
    have := fin [UInt8.ofNat s] [UInt8.ofNat s'] (totV (ta u') + totV d') o6 g4 (by rw [es]; omega) (by rw [es']; omega)
    rw [hs, hs'] at this
    rw [this] at hne
    exact hne rfl
  · have hd' : d' = [] := by rcases b1 with ⟨q, _⟩ | ⟨_, q⟩; omega; exact q
    subst hd'
    have e : ∀ (u : Nat) (s : Nat), fmtL ⟨3, u, [], s⟩ = startW ++ 32 :: (hexL u ++ 32 :: twoL s) := fun u s => rfl
    rw [e, e] at h hne
    rcases set_split _ _ _ _ o c rfl h.symm with ⟨_, g⟩ | ⟨_, o1, g⟩
    · exact hne (by rw [g])
    rcases cons32 _ _ o1 g with g | ⟨o2, g⟩
    · exact hne (by rw [g])
    rcases set_split _ _ _ _ o2 c (by rw [hexL_len, hexL_len]) g.symm with ⟨g1, g2⟩ | ⟨g1, o3, g2⟩
    · injection g2 with _ g4
      have gs : s' = s := by
        rw [← hs, ← hs'] at g4
        have := congrArg totV (hexs_inj g4)
        rwa [es, es'] at this
      subst gs
      rw [hexL_ta a2, hexL_ta b2] at g1
      have := fin (ta u) (ta u') (totV ([] : List UInt8) + s') o2 g1 (by omega) (by omega)
      rw [hexL_ta a2, hexL_ta b2, this] at hne
      exact hne rfl
    have gu : u' = u := by
      rw [hexL_ta a2, hexL_ta b2] at g1
      have := congrArg be4 (hexs_inj g1)
      rwa [be4_ta a2, be4_ta b2] at this
    subst gu
    rcases cons32 _ _ o3 g2 with g2 | ⟨o4, g2⟩
    · exact hne (by rw [g2])
    rw [← hs, ← hs'] at g2
    have := fin [UInt8.ofNat s] [UInt8.ofNat s'] (totV (ta u') + totV ([] : List UInt8)) o4 g2 (by rw [es]; omega) (by rw [es']; omega)
    rw [hs, hs'] at this
    rw [this] at hne
    exact hne rfl
end Go.Proofs.YtnigkecpiolgeaaDoor.My
/- Plain: a changed digit is found. -/
set_option linter.unusedVariables false
set_option linter.unusedSimpArgs false
namespace Go.Proofs.YtnigkecpiolgeaaDoor.My
open Go.RowKit
def isDig (c : Nat) : Bool := decide (48 ≤ c ∧ c ≤ 57 ∨ 97 ≤ c ∧ c ≤ 102)
theorem dig_range {c : UInt8} (h : isDig c.toNat = true) : (32 ≤ c.toNat ∧ c.toNat ≤ 126) ∧ c ≠ 10 := by
  unfold isDig at h
  have h := of_decide_eq_true h
  refine ⟨by omega, fun e => ?_⟩
  rw [e] at h
  have : ((10 : UInt8)).toNat = 10 := rfl
  omega
theorem go_pre {r : RowV} {post : List RowV} {a : Nat} {b : List SegV} {n : Nat} : ∀ (pre : List RowV) (st : Nat) (ss : List SegV) (last : RowV) (i : Nat), goV (pre ++ r :: post) st ss last i = (a, b, n, 0) →
    ∃ st' ss' last', (∀ tail, goV (pre ++ tail) st ss last i = goV tail st' ss' last' (i + pre.length)) ∧ moreV ss' last' r = 0
  | [], st, ss, last, i, h => by
    refine ⟨st, ss, last, fun tail => rfl, ?_⟩
    rw [List.nil_append, goV] at h
    split at h
    · assumption
    · rename_i q
      exact absurd (congrArg (fun t => t.2.2.2) h) q
  | p :: pre, st, ss, last, i, h => by
    rw [List.cons_append, goV] at h
    split at h
    · rename_i q
      obtain ⟨st', ss', last', h1, h2⟩ := go_pre pre _ _ _ _ h
      refine ⟨st', ss', last', fun tail => ?_, h2⟩
      rw [List.cons_append, goV, if_pos q, h1 tail, List.length_cons, show i + 1 + pre.length = i + (pre.length + 1) by omega]
    · rename_i q
      exact absurd (congrArg (fun t => t.2.2.2) h) q
theorem flat_set {x c : UInt8} (hx : x ≠ 10) : ∀ (ls : List (List UInt8)) (j : Nat), (ls.flatMap (· ++ [10]))[j]? = some x →
    ∃ ls1 l ls2 o, ls = ls1 ++ l :: ls2 ∧ l[o]? = some x ∧ (ls.flatMap (· ++ [10])).set j c = (ls1 ++ l.set o c :: ls2).flatMap (· ++ [10])
  | [], j, h => by simp at h
  | l :: r, j, h => by
    rw [List.flatMap_cons] at h ⊢
    by_cases q : j < l.length
    · refine ⟨[], l, r, j, rfl, ?_, ?_⟩
      · rw [List.append_assoc, List.getElem?_append_left q] at h; exact h
      · rw [List.append_assoc, List.set_append_left _ _ q, List.nil_append, List.flatMap_cons, List.append_assoc]
    · by_cases q2 : j = l.length
      · exfalso
        rw [List.append_assoc, List.getElem?_append_right (by omega), q2, Nat.sub_self] at h
        simp at h
        exact hx h.symm
      · rw [List.getElem?_append_right (by rw [List.length_append]; simp; omega)] at h
        obtain ⟨ls1, l1, ls2, o, h1, h2, h3⟩ := flat_set hx r _ h
        refine ⟨l :: ls1, l1, ls2, o, by rw [h1]; rfl, h2, ?_⟩
        rw [List.set_append_right _ _ (by rw [List.length_append]; simp; omega), h3]
        rfl
theorem text_finds {st : Nat} {ss : List SegV} (h : rightV ss = 0) (hst : st < 4294967296) (h1 : (textV st ss).length ≤ 65536) (h2 : (rowsI st ss).length ≤ 4096) {j : Nat} {c x : UInt8} (hj : (textV st ss)[j]? = some x) (hx : isDig x.toNat = true) (hc : isDig c.toNat = true) (hne : x ≠ c) :
    (parseV (bs ((textV st ss).set j c))).2.2.2 ≠ 0 ∧ 0 < (parseV (bs ((textV st ss).set j c))).2.2.1 := by
  have hr : rightR ss 0 = 0 := by unfold rightV at h; split at h; cases h; exact h
  have hok := rowsI_ok hr hst
  have h64 : ss.length ≤ 64 := by unfold rightV at h; split at h; cases h; omega
  have ht := text_rows (st := st) h
  have hgo := go_all st ss [] rowZ 0 hr (by decide) (by simpa using h64)
  rw [List.nil_append] at hgo
  obtain ⟨hxr, hx10⟩ := dig_range hx
  obtain ⟨hcr, hc10⟩ := dig_range hc
  rw [ht] at hj h1
  obtain ⟨ls1, l, ls2, o, e1, e2, e3⟩ := flat_set (c := c) hx10 _ j hj
  obtain ⟨pre, tl, f1, f2, f3⟩ := List.map_eq_append_iff.1 e1
  obtain ⟨r, post, f4, f5, f6⟩ := List.map_eq_cons_iff.1 f3
  subst f4
  have hrng : ∀ m ∈ ls1 ++ l.set o c :: ls2, ∀ b ∈ m, 32 ≤ b.toNat ∧ b.toNat ≤ 126 := by
    have hall : ∀ m ∈ (rowsI st ss).map fmtL, ∀ b ∈ m, 32 ≤ b.toNat ∧ b.toNat ≤ 126 := by
      intro m hm
      obtain ⟨q, hq, rfl⟩ := List.mem_map.1 hm
      exact fmt_range (hok q hq)
    rw [e1] at hall
    intro m hm b hb
    rcases List.mem_append.1 hm with hm | hm
    · exact hall m (by simp [hm]) b hb
    · rcases List.mem_cons.1 hm with rfl | hm
      · rcases List.mem_or_eq_of_mem_set hb with hb | rfl
        · exact hall l (by simp) b hb
        · exact hcr
      · exact hall m (by simp [hm]) b hb
  have hlen : ((ls1 ++ l.set o c :: ls2).flatMap (· ++ [10])).length ≤ 65536 := by rw [← e3, List.length_set]; exact h1
  have hcnt : (ls1 ++ l.set o c :: ls2).length ≤ 4096 := by
    have := congrArg List.length e1
    rw [List.length_map, List.length_append, List.length_cons] at this
    rw [List.length_append, List.length_cons]
    omega
  rw [ht, e3, parseV_bs, linesP_flat _ hrng hlen hcnt, if_pos rfl]
  simp only
  have hpre : (ls1.map rowV) = pre := by
    rw [← f2, List.map_map]
    conv => rhs; rw [← List.map_id pre]
    apply List.map_congr_left
    intro q hq
    exact row_fmt (hok q (by rw [f1]; simp [hq]))
  rw [List.map_append, List.map_cons, hpre]
  have hgo2 : goV (pre ++ r :: post) 0 [] rowZ 0 = (st, ss, 0, 0) := by rw [← f1]; exact hgo
  obtain ⟨st', ss', last', g1, g2⟩ := go_pre pre 0 [] rowZ 0 hgo2
  rw [g1]
  have hrok := hok r (by rw [f1]; simp)
  have hbad : moreV ss' last' (rowV (l.set o c)) ≠ 0 := by
    intro hz
    have hck : ∀ x : RowV, moreV ss' last' x = 0 → ckV x.at_ x.b = x.sum ∧ x.kind ≠ 0 := by
      intro x hx
      unfold moreV at hx
      split at hx
      · cases hx
      · rename_i q1
        split at hx
        · cases hx
        · split at hx
          · cases hx
          · rename_i q3
            exact ⟨by simpa using q3, fun e => q1 (.inl e)⟩
    obtain ⟨k1, k2⟩ := hck _ hz
    obtain ⟨m1, m2⟩ := fmt_row (l := l.set o c) k2
    obtain ⟨k3, _⟩ := hck _ g2
    have e5 : fmtL (rowV (l.set o c)) = (fmtL r).set o c := by rw [← m2, f5]
    have e6 := rows_apart hrok m1 k3 k1 e5
    rw [e5, f5] at e6
    have := congrArg (fun q => q[o]?) e6
    replace this : (l.set o c)[o]? = l[o]? := this
    have ho : o < l.length := (List.getElem?_eq_some_iff.1 e2).1
    rw [List.getElem?_set_self ho, e2] at this
    exact hne (Option.some.inj this).symm
  rw [goV, if_neg hbad]
  exact ⟨hbad, Nat.succ_pos _⟩
/-- Bytes in all. -/
def totD (ss : List SegV) : Nat := (ss.map fun s => s.d.length).sum
theorem rowT_len : ∀ (n k u : Nat) (d : List UInt8), (rowT n k u d).length ≤ d.length
  | 0, _, _, _ => Nat.zero_le _
  | n + 1, k, u, d => by
    rw [rowT]
    split
    · exact Nat.zero_le _
    · have := rowT_len n 2 (u + 16) (d.drop 16)
      rw [List.length_drop] at this
      rw [List.length_cons]
      omega
theorem rowsI_len (st : Nat) (ss : List SegV) : (rowsI st ss).length ≤ totD ss + 1 := by
  unfold rowsI
  rw [List.length_append, List.length_singleton]
  have : (ss.flatMap rowsS).length ≤ totD ss := by
    induction ss with
    | nil => exact Nat.zero_le _
    | cons s r ih =>
      rw [List.flatMap_cons, List.length_append]
      have := rowT_len s.d.length 1 s.at_ s.d
      unfold totD at ih ⊢
      rw [List.map_cons, List.sum_cons]
      show (rowT _ _ _ _).length + _ ≤ _
      omega
  omega
theorem line19 (k u : Nat) (d : List UInt8) (hk : k = 1 ∨ k = 2) (hd : d.length ≠ 0) : (lineV (kindW k) u d).length ≤ 19 * d.length := by
  rw [line_fmt k u d hk hd]
  have e : fmtL ⟨k, u, d, ckV u d⟩ = kindW k ++ 32 :: (hexL u ++ 32 :: (hexsL d ++ 32 :: twoL (ckV u d))) := by unfold fmtL; rw [if_neg (show ¬ (RowV.mk k u d (ckV u d)).kind = 3 by show ¬ k = 3; omega)]
  have e1 : (twoL (ckV u d)).length = 2 := rfl
  have e2 : (kindW k).length = 3 := by rcases hk with rfl | rfl <;> rfl
  rw [e]
  simp only [List.length_append, List.length_cons, hexL_len, hexsL_len, e1, e2, List.length_nil]
  omega
theorem segT19 : ∀ (n k u : Nat) (d : List UInt8), (k = 1 ∨ k = 2) → (segT n (kindW k) u d).length ≤ 19 * d.length
  | 0, _, _, _, _ => Nat.zero_le _
  | n + 1, k, u, d, hk => by
    rw [segT]
    split
    · exact Nat.zero_le _
    · have h1 := line19 k u (d.take 16) hk (by rw [List.length_take]; omega)
      have h2 := segT19 n 2 (u + 16) (d.drop 16) (.inr rfl)
      rw [List.length_append]
      rw [List.length_take] at h1
      rw [List.length_drop] at h2
      have h2' : (segT n andW (u + 16) (d.drop 16)).length ≤ 19 * (d.length - 16) := h2
      omega
theorem segs19 (ss : List SegV) : (ss.flatMap segL).length ≤ 19 * totD ss := by
  induction ss with
  | nil => exact Nat.zero_le _
  | cons s r ih =>
    rw [List.flatMap_cons, List.length_append]
    have := segT19 s.d.length 1 s.at_ s.d (.inl rfl)
    unfold totD at ih ⊢
    rw [List.map_cons, List.sum_cons]
    have h3 : (segL s).length ≤ 19 * s.d.length := this
    omega
theorem text19 (st : Nat) (ss : List SegV) : (textV st ss).length ≤ 19 * totD ss + 18 := by
  unfold textV
  split
  · rw [List.length_append]
    have h1 : (lineV startW st []).length = 18 := by rw [line_start]; rfl
    have h2 := segs19 ss
    omega
  · exact Nat.zero_le _
end Go.Proofs.YtnigkecpiolgeaaDoor.My
/- An image among the arguments: what its value looks like; is it light; where a row lists variables. -/
set_option linter.unusedSimpArgs false
set_option linter.unusedVariables false
namespace Go.Proofs.YtnigkecpiolgeaaDoor.My
open Go.ChangeShapes Go.WideShapes Go.ChangeAt Go.RowKit
section
variable {w : World} {H : Type} {enc : TypeId × Value → H} {base : Nat} {spare : Nat → Bool} {held : Bool}
theorem fld {t : TypeId} {fs : Array Field} {fuel : Nat} {cs : List Value} {x : DataW H × List MemPlace} {m : Nat} (ht : Tryd.prog.underlying t = some (.struct fs)) (h : DataW.trod enc Tryd.prog w base spare held fuel t cs = some x) (i : Nat) (f : Field) (hf : fs[i]? = some f) (hm : Tryd.prog.cellsOf f.type = m) :
    ∃ n y, DataW.trod enc Tryd.prog w base spare held n f.type ((cs.drop f.offset).take m) = some y := by
  obtain ⟨xs, n, _, _, _, hl, hfi⟩ := DataW.trod_struct ht h
  have h2 := hfi i f hf
  have hi : i < xs.length := by rw [hl]; exact (Array.getElem?_eq_some_iff.1 hf).1
  rw [List.getElem?_eq_getElem hi, hm] at h2
  exact ⟨n, _, h2⟩
theorem split_cons {α : Type} {n : Nat} {cs : List α} (h : cs.length = n + 1) : ∃ c cs', cs = c :: cs' ∧ cs'.length = n := by
  cases cs with
  | nil => simp at h
  | cons c cs => exact ⟨c, cs, rfl, by simpa using h⟩
end
theorem cells_range {w : World} {base : Nat} {b off n : Nat} {cs : List Value} (h : w.cells? base ⟨b, off, none⟩ n = some cs) : cs.length = n ∧ w.rangeAt b off cs := by
  unfold World.cells? at h
  split at h
  · refine ⟨by simpa using mapM_some_length h, fun j v hv => ?_⟩
    have hj : j < cs.length := (List.getElem?_eq_some_iff.1 hv).1
    have hl : cs.length = n := by simpa using mapM_some_length h
    have h2 := mapM_some_get h j j (by simp [List.getElem?_range (show j < n by omega)])
    rw [hv, addr_add] at h2
    exact h2
  · cases h
theorem cells_spot {w : World} {base : Nat} {a : Addr} {n : Nat} {cs : List Value} (h : w.cells? base a n = some cs) (hn : 0 < n) : a.spot = none := by
  unfold World.cells? at h
  split at h
  · have hl : cs.length = n := by simpa using mapM_some_length h
    have h2 := mapM_some_get h 0 0 (by simp [List.getElem?_range hn])
    rw [List.getElem?_eq_getElem (show 0 < cs.length by omega)] at h2
    simpa [Addr.add] using World.cell?_spot h2
  · cases h
/-- A slice of rows of cells, each of a known shape. -/
theorem open_rows_at {α : Type} {w : World} {H : Type} {enc : TypeId × Value → H} {base : Nat} {spare : Nat → Bool} {held : Bool} {t e : TypeId} {v : Value} (k : Nat) (f : α → Array Value) (z : α) (Pa : α → Prop) (ht : Tryd.prog.underlying t = some (.slice e)) (hk : Tryd.prog.cellsOf e = k) (hk0 : 0 < k)
    (hsh : ∀ n cs x, DataW.trod enc Tryd.prog w base spare held n e cs = some x → ∃ u, cs = (f u).toList ∧ Pa u) (hf : ∀ u, (f u).size = k) {fuel : Nat} {x : DataW H × List MemPlace} (h : DataW.trod enc Tryd.prog w base spare held fuel t [v] = some x) :
    ∃ (A : Option Addr) (c : Nat) (us : List α), v = .slice A us.length c ∧ RwA w A k us.length (us.map f) ∧ us.length ≤ maxLen ∧ us.length ≤ c ∧ (A = none → c = 0) ∧ ∀ u ∈ us, Pa u := by
  rcases Go.Deep.open_slice ht h with ⟨hcs, _⟩ | ⟨a, len, cap, m, n, D, Pl, hcs, hb, hl, hm, hmm, _, hel⟩
  · simp only [List.cons.injEq, and_true] at hcs
    subst hcs
    exact ⟨none, 0, [], rfl, ⟨rfl, (fun r hr => by cases hr), fun h => absurd h (Nat.lt_irrefl 0)⟩, Nat.zero_le _, Nat.le_refl _, (fun _ => rfl), fun u hu => by cases hu⟩
  · simp only [List.cons.injEq, and_true] at hcs
    subst hcs
    have hlm : len ≤ m := by rw [hmm]; split <;> omega
    have hx : ∀ i, i < len → ∃ u, w.cells? base (a.add (i * k)) k = some (f u).toList ∧ Pa u := fun i hi => by
      obtain ⟨cs', h1, h2⟩ := hel i (by omega)
      obtain ⟨u, rfl, hu⟩ := hsh _ _ _ h2
      rw [hk] at h1
      exact ⟨u, h1, hu⟩
    obtain ⟨U, hU⟩ : ∃ U : Nat → α, ∀ i, i < len → w.cells? base (a.add (i * k)) k = some (f (U i)).toList ∧ Pa (U i) := by
      refine ⟨fun i => if h : i < len then Classical.choose (hx i h) else z, fun i hi => ?_⟩
      simp only [dif_pos hi]
      exact Classical.choose_spec (hx i hi)
    have hlen : ((List.range len).map U).length = len := by simp
    refine ⟨some a, cap, (List.range len).map U, by rw [hlen], ⟨by simp, (fun r hr => ?_), fun hn => ?_⟩, by rw [hlen]; omega, by rw [hlen]; omega, (fun h => by cases h), (fun u hu => ?_)⟩
    · obtain ⟨u, _, rfl⟩ := List.mem_map.1 hr
      exact hf u
    · rw [hlen] at hn
      obtain ⟨b, off, spot⟩ := a
      have h0 := (hU 0 hn).1
      rw [Nat.zero_mul] at h0
      have hs : spot = none := by simpa [Addr.add] using cells_spot h0 hk0
      subst hs
      refine ⟨b, off, rfl, ?_, fun j r hr => ?_⟩
      · rw [addr_add] at h0
        have h1 := (cells_range h0).2
        have hp : 0 < (f (U 0)).toList.length := by simp [hf]; exact hk0
        exact World.block_lt_of_cell? w _ (h1 0 _ (List.getElem?_eq_getElem hp))
      · have hj : j < len := by
          have := (List.getElem?_eq_some_iff.1 hr).1
          simpa using this
        have h1 := (hU j hj).1
        rw [addr_add] at h1
        have hr' : f (U j) = r := by
          rw [List.getElem?_map, List.getElem?_map, List.getElem?_range hj] at hr
          simpa using hr
        rw [← hr']
        exact (cells_range h1).2
    · obtain ⟨i, hi, rfl⟩ := List.mem_map.1 hu
      exact (hU i (by simpa using hi)).2
theorem okWide_slice {P : Program} {w : World} {r : Reach} {base : Nat} {t e : TypeId} {v : Value} (ht : P.underlying t = some (.slice e)) (h : Value.okWide P w r base t v) : v.cells.toList = [v] := by
  unfold Value.okWide at h
  rw [ht] at h
  cases v <;> simp_all [Value.cells, Cell.okWide, Cell.ok]

/-- A segment of an argument. -/
def SegG (w : World) (m : SegM) : Prop := m.at_ < 4294967296 ∧ m.d.length ≤ maxLen ∧ m.d.length ≤ m.c ∧ RdA .u8 w m.D m.d.length (ints m.d)
def b1 (c : UInt8) : Array Value := #[.int .u8 (c.toNat : Int)]
theorem rd_rows {w : World} {A : Option Addr} {d : List UInt8} (h : RwA w A 1 d.length (d.map b1)) : RdA .u8 w A d.length (ints d) := by
  refine ⟨by simp [ints], fun hn => ?_⟩
  obtain ⟨b, off, hA, _, hc⟩ := h.2.2 hn
  refine ⟨b, off, hA, fun j hj => ?_⟩
  obtain ⟨c, hcj⟩ : ∃ c, d[j]? = some c := ⟨_, List.getElem?_eq_getElem hj⟩
  have h1 := hc j (b1 c) (by simp [hcj]) 0 (.int .u8 (c.toNat : Int)) rfl
  rw [Nat.mul_one, Nat.add_zero] at h1
  rw [el_ints hcj]
  exact h1
section
variable {w : World} {H : Type} {enc : TypeId × Value → H} {base : Nat} {spare : Nat → Bool} {held : Bool}
theorem byte_of {fuel : Nat} {cs : List Value} {x : DataW H × List MemPlace} (h : DataW.trod enc Tryd.prog w base spare held fuel 5 cs = some x) : ∃ u : UInt8, cs = (b1 u).toList ∧ True := by
  obtain ⟨n, rfl, _, wf⟩ := DataW.trod_int Tryd.underlying5 h
  have hw := wf_u8 wf
  refine ⟨UInt8.ofNat n.toNat, ?_, trivial⟩
  show [Value.int .u8 n] = [Value.int .u8 ((UInt8.ofNat n.toNat).toNat : Int)]
  rw [of_nat (show n.toNat < 256 by omega)]
  rw [show ((n.toNat : Nat) : Int) = n by omega]
set_option maxRecDepth 100000 in
theorem bytes_of {fuel : Nat} {v : Value} {x : DataW H × List MemPlace} (h : DataW.trod enc Tryd.prog w base spare held fuel 26 [v] = some x) : ∃ (D : Option Addr) (c : Nat) (d : List UInt8), v = .slice D d.length c ∧ RdA .u8 w D d.length (ints d) ∧ d.length ≤ maxLen ∧ d.length ≤ c ∧ (D = none → c = 0) := by
  obtain ⟨A, c, us, h1, h2, h3, h4, h5, _⟩ := open_rows_at 1 b1 0 (fun _ => True) Tryd.underlying26 (by kernel_rfl) (by omega) (fun n cs x h => byte_of h) (fun u => rfl) h
  exact ⟨A, c, us, h1, rd_rows h2, h3, h4, h5⟩
set_option maxRecDepth 100000 in
theorem seg_of {fuel : Nat} {cs : List Value} {x : DataW H × List MemPlace} (h : DataW.trod enc Tryd.prog w base spare held fuel 51 cs = some x) : ∃ m : SegM, cs = (sA m).toList ∧ SegG w m := by
  obtain ⟨_, _, _, _, hlen, _, _⟩ := DataW.trod_struct Tryd.underlying51 h
  have hlen : cs.length = 2 := hlen.trans (by kernel_rfl)
  obtain ⟨c0, r0, rfl, l0⟩ := split_cons hlen
  obtain ⟨c1, r1, rfl, l1⟩ := split_cons l0
  obtain rfl := List.eq_nil_of_length_eq_zero l1
  obtain ⟨n1, y1, h1⟩ := fld (m := 1) Tryd.underlying51 h 0 _ rfl (by kernel_rfl)
  replace h1 : DataW.trod enc Tryd.prog w base spare held n1 22 [c0] = some y1 := h1
  obtain ⟨n2, y2, h2⟩ := fld (m := 1) Tryd.underlying51 h 1 _ rfl (by kernel_rfl)
  replace h2 : DataW.trod enc Tryd.prog w base spare held n2 26 [c1] = some y2 := h2
  obtain ⟨a, ea, _, wa⟩ := DataW.trod_int Tryd.underlying22 h1
  obtain rfl := (List.cons.inj ea).1
  obtain ⟨D, c, d, rfl, e1, e2, e3, _⟩ := bytes_of h2
  have hw := wf_u32 wa
  refine ⟨⟨a.toNat, D, c, d⟩, ?_, by show a.toNat < _; omega, e2, e3, e1⟩
  show [Value.int .u32 a, .slice D d.length c] = [Value.int .u32 ((a.toNat : Nat) : Int), .slice D d.length c]
  rw [show ((a.toNat : Nat) : Int) = a by omega]
end
/-- A slice of segments of an argument. -/
def RdSgG (w : World) (A : Option Addr) (ms : List SegM) : Prop := RwA w A 2 ms.length (ms.map sA) ∧ ∀ m ∈ ms, SegG w m
theorem RdSgG.below {w w' : World} {A : Option Addr} {ms : List SegM} (h : RdSgG w A ms) (hb : Below w.heap.size w w') : RdSgG w' A ms :=
  ⟨h.1.below hb, fun m hm => ⟨(h.2 m hm).1, (h.2 m hm).2.1, (h.2 m hm).2.2.1, (h.2 m hm).2.2.2.below hb⟩⟩
theorem RdSgG.small {w : World} {A : Option Addr} {ms : List SegM} (h : RdSgG w A ms) (hs : ∀ m ∈ ms, m.d.length ≤ 1000000) : RdSg w A ms :=
  ⟨h.1, fun m hm => ⟨(h.2 m hm).1, hs m hm, (h.2 m hm).2.2.1, (h.2 m hm).2.2.2⟩⟩
set_option maxRecDepth 100000 in
theorem open_image {w : World} {H : Type} {enc : TypeId × Value → H} {r : Reach} {b0 base : Nat} {spare : Nat → Bool} {held : Bool} {v : Value} {d : DataW H} {ps : List MemPlace} (hval : Value.okWide Tryd.prog w r b0 25 v) (hd : DataW.Trod enc Tryd.prog w base spare held 25 v d ps) :
    ∃ (st : Nat) (S : Option Addr) (ms : List SegM) (c : Nat), v = .agg (imA st S ms.length c) ∧ st < 4294967296 ∧ RdSgG w S ms ∧ ms.length ≤ maxLen ∧ ms.length ≤ c := by
  obtain ⟨cs, rfl, hc⟩ := open_row Tryd.underlying25 rfl (ts := [22, 23]) (by kernel_rfl) (by kernel_rfl) hval
  obtain ⟨c0, r0, rfl, _, hc⟩ := hc.cons
  obtain ⟨c1, r1, rfl, _, hc⟩ := hc.cons
  obtain rfl := hc.nil
  obtain ⟨fuel, h⟩ := hd
  replace h : DataW.trod enc Tryd.prog w base spare held fuel 25 [c0, c1] = some (d, ps) := h
  obtain ⟨n1, y1, h1⟩ := fld (m := 1) Tryd.underlying25 h 0 _ rfl (by kernel_rfl)
  replace h1 : DataW.trod enc Tryd.prog w base spare held n1 22 [c0] = some y1 := h1
  obtain ⟨n2, y2, h2⟩ := fld (m := 1) Tryd.underlying25 h 1 _ rfl (by kernel_rfl)
  replace h2 : DataW.trod enc Tryd.prog w base spare held n2 23 [c1] = some y2 := h2
  obtain ⟨a, ea, _, wa⟩ := DataW.trod_int Tryd.underlying22 h1
  obtain rfl := (List.cons.inj ea).1
  obtain ⟨A, c, us, rfl, e1, e2, e3, _, e5⟩ := open_rows_at 2 sA ⟨0, none, 0, []⟩ (SegG w) Tryd.underlying23 (by kernel_rfl) (by omega) (fun n cs x h => seg_of h) (fun u => rfl) h2
  have hw := wf_u32 wa
  refine ⟨a.toNat, A, us, c, ?_, by omega, ⟨e1, e5⟩, e2, e3⟩
  show Value.agg #[.int .u32 a, .slice A us.length c] = Value.agg #[.int .u32 ((a.toNat : Nat) : Int), .slice A us.length c]
  rw [show ((a.toNat : Nat) : Int) = a by omega]
end Go.Proofs.YtnigkecpiolgeaaDoor.My
/- Walk: is an image light. -/
set_option linter.unusedSimpArgs false
set_option linter.unusedVariables false
namespace Go.Proofs.YtnigkecpiolgeaaDoor.My
open Go.RowKit
theorem RdSg.gen {w : World} {A : Option Addr} {ms : List SegM} (h : RdSg w A ms) : RdSgG w A ms :=
  ⟨h.1, fun m hm => ⟨(h.2 m hm).1, Nat.le_trans (h.2 m hm).2.1 (by decide), (h.2 m hm).2.2.1, (h.2 m hm).2.2.2⟩⟩
/-- Not too much for a statement. -/
def lightR : Nat → List SegV → Bool
  | n, [] => decide (n ≤ 3000)
  | n, s :: r => if 600 < s.d.length then false else lightR (n + s.d.length) r
def lightB (ss : List SegV) : Bool := if 70 < ss.length then false else lightR 0 ss
theorem segV_iff (a b : SegV) : (a.at_ = b.at_ ∧ a.d = b.d) ↔ a = b := by
  obtain ⟨x, y⟩ := a
  obtain ⟨z, u⟩ := b
  constructor
  · rintro ⟨rfl, rfl⟩; rfl
  · intro h; injection h with h1 h2; exact ⟨h1, h2⟩
instance decSegV : DecidableEq SegV := fun a b => decidable_of_iff _ (segV_iff a b)
theorem lightR_cons (m : SegM) (r : List SegV) (n : Nat) : lightR n (m.v :: r) = if 600 < m.d.length then false else lightR (n + m.d.length) r := rfl
set_option maxRecDepth 100000 in
set_option maxHeartbeats 1000000 in
theorem light_any (st c : Nat) (S : Option Addr) (ms : List SegM) (w : World) (hx : RdSgG w S ms) (hm : ms.length ≤ 9223372036854775807) (hc : ms.length ≤ c) : Calls Tryd.prog 9 #[.agg (imA st S ms.length c)] w fun e w' => e = .returned (.bool (lightB (ms.map SegM.v))) ∧ Below w.heap.size w w' := by
  have HB := startB w
  have HX := Lib.hid hx
  clear hx
  obtain ⟨R, hR⟩ : ∃ R, lightB (ms.map SegM.v) = R := ⟨_, rfl⟩
  rw [hR]
  have HR := Lib.hid hR
  clear hR
  go_enter Tryd.func9, Tryd.ntmps9
  by_cases h70 : 70 < ms.length
  · have hR' : R = false := by rw [← HR.out]; unfold lightB; rw [if_pos (by simpa using h70)]
    subst hR'
    clear HR
    go_wp2_with (refine wlBox ?_ 25 _ rfl (imA st S ms.length c) rfl ?_; exact rfl; intro gI w1 hg hl ha hb; replace HX := Lib.hid (HX.out.below hb); replace HB := keepB HB hb; have HI := Lib.hid ha; have i1 : w1.cell? ⟨gI, 1, none⟩ = some (.slice S ms.length c) := cellA HI 1; clear ha hb hg hl)
    go_ret
    exact ⟨rfl, HB.out.1⟩
  · have HR2 : Hid (lightR 0 ((ms.drop 0).map SegM.v) = R) := Lib.hid (by have := HR.out; unfold lightB at this; rwa [if_neg (by simpa using h70)] at this)
    clear HR
    go_wp2_with (refine wlBox ?_ 25 _ rfl (imA st S ms.length c) rfl ?_; exact rfl; intro gI w1 hg hl ha hb; replace HX := Lib.hid (HX.out.below hb); replace HB := keepB HB hb; have HI := Lib.hid ha; have i1 : w1.cell? ⟨gI, 1, none⟩ = some (.slice S ms.length c) := cellA HI 1; clear ha hb hg hl)
    go_loopw [3, 4] (fun n i wr => ∃ (k N : Nat), k ≤ ms.length ∧ i = .int .i64 k ∧ n = .int .i64 N ∧ N ≤ 600 * k ∧ wr = w1 ∧ Hid (lightR N ((ms.drop k).map SegM.v) = R)) (fun _ i _ => ms.length - (intOf i).toNat)
    case atStart => exact ⟨0, 0, Nat.zero_le _, by first | trivial | rfl, by first | trivial | rfl, Nat.zero_le _, by first | trivial | rfl, HR2⟩
    case round =>
      clear HR2
      obtain ⟨k, N, hk, rfl, rfl, hN, rfl, HR⟩ := hrel
      by_cases hlt : k < ms.length
      · obtain ⟨mm, hmm⟩ : ∃ m, ms[k]? = some m := ⟨_, List.getElem?_eq_getElem hlt⟩
        obtain ⟨b, off, rfl, _, hcc⟩ := HX.out.1.2.2 (by omega)
        obtain ⟨_, g2, _, _⟩ := HX.out.2 mm (List.mem_of_getElem? hmm)
        have f1 : wr.cell? ⟨b, off + k * 2 + 1, none⟩ = some (.slice mm.D mm.d.length mm.c) := hcc k (sA mm) (sA_get hmm) 1 _ rfl
        have hr := HR.out
        rw [drop_cons hmm, List.map_cons, lightR_cons] at hr
        have hmx : mm.d.length ≤ 9223372036854775807 := g2
        clear hcc HR hmm g2
        obtain ⟨D0, hD0⟩ : ∃ D0, mm.D = D0 := ⟨_, rfl⟩
        obtain ⟨n0, hn0⟩ : ∃ n0, mm.d.length = n0 := ⟨_, rfl⟩
        obtain ⟨c0, hc0⟩ : ∃ c0, mm.c = c0 := ⟨_, rfl⟩
        rw [hD0, hn0, hc0] at f1
        rw [hn0] at hr hmx
        clear hD0 hn0 hc0
        by_cases q : 600 < n0
        · rw [if_pos q] at hr
          subst hr
          go_wp2_with (refine wlIdx ?_ 23 _ _ rfl 51 2 Tryd.underlying23 sizeSeg b off ms.length c k rfl rfl hlt ?_; exact rfl)
          go_ret
          exact ⟨rfl, HB.out.1⟩
        · rw [if_neg q] at hr
          have HR := Lib.hid hr
          clear hr
          go_wp2_with (refine wlIdx ?_ 23 _ _ rfl 51 2 Tryd.underlying23 sizeSeg b off ms.length c k rfl rfl hlt ?_; exact rfl)
          go_roundw
          case rel => exact ⟨k + 1, N + n0, by omega, by first | trivial | go_num, by first | trivial | go_num, by omega, by first | trivial | rfl, HR⟩
          case measure => simp [intOf]; omega
      · obtain rfl : k = ms.length := by omega
        have hr := HR.out
        rw [List.drop_eq_nil_of_le (Nat.le_refl _), List.map_nil, lightR] at hr
        have hN2 : N ≤ 42000 := by have : ms.length ≤ 70 := Nat.not_lt.1 h70; omega
        clear HR
        go_wp2
        go_ret
        have e : decide ((N : Int) ≤ 3000) = decide (N ≤ 3000) := decide_eq_decide.2 (by omega)
        exact ⟨by show Ending.returned (Value.bool (decide ((N : Int) ≤ 3000))) = _; rw [e, hr], HB.out.1⟩
end Go.Proofs.YtnigkecpiolgeaaDoor.My
/- Walk: the chapter's examples. -/
set_option linter.unusedVariables false
set_option linter.unusedSimpArgs false
namespace Go.Proofs.YtnigkecpiolgeaaDoor.My
open Go.RowKit
def egD : List UInt8 := [5, 0, 64, 100]
def egT : List UInt8 := [115, 101, 103, 32, 48, 48, 48, 48, 48, 48, 48, 48, 32, 48, 53, 48, 48, 52, 48, 54, 52, 32, 53, 55, 10, 115, 116, 97, 114, 116, 32, 48, 48, 48, 48, 48, 48, 48, 48, 32, 48, 48, 10]
theorem eg_text : textV 0 [⟨0, egD⟩] = egT := by decide +kernel
theorem eg_parse : parseV (bs egT) = (0, [⟨0, egD⟩], 0, 0) := by
  have := parse_text (st := 0) (ss := [⟨0, egD⟩]) (by decide +kernel) (by decide) (by rw [eg_text]; decide) (by decide +kernel)
  rwa [eg_text] at this
theorem eg_sum : sumV [200, 100] = 212 := by decide +kernel
theorem eg_segs {w : World} {gD gS : Nat} (hD : w.heap[gD]? = some (.cells #[.int .u8 5, .int .u8 0, .int .u8 64, .int .u8 100] 5 (0, 0))) (hS : w.heap[gS]? = some (.cells #[.int .u32 0, .slice (some ⟨gD, 0, none⟩) 4 4] 51 (0, 0))) : RdSg w (some ⟨gS, 0, none⟩) [⟨0, some ⟨gD, 0, none⟩, 4, egD⟩] := by
  have hs : SegsAt w 0 (.slice (some ⟨gS, 0, none⟩) 1 1) [⟨0, some ⟨gD, 0, none⟩, 4, egD⟩] := by
    refine ⟨⟨rfl, .inr ⟨gS, 1, _, rfl, Nat.zero_le _, hS, Nat.le_refl _, by decide, rfl, rfl⟩⟩, fun m hm => ?_, List.pairwise_singleton _ _, fun m hm => ?_⟩
    · obtain rfl : m = ⟨0, some ⟨gD, 0, none⟩, 4, egD⟩ := by simpa using hm
      exact ⟨rfl, .inr ⟨gD, 4, _, rfl, Nat.zero_le _, hD, Nat.le_refl _, by decide, rfl, rfl⟩⟩
    · obtain rfl : m = ⟨0, some ⟨gD, 0, none⟩, 4, egD⟩ := by simpa using hm
      show 0 + 4 ≤ 16384; decide
  obtain ⟨A, c, e, hr⟩ := hs.rd
  injection e with e1 _ _
  subst e1
  exact hr
set_option maxRecDepth 100000 in
set_option maxHeartbeats 4000000 in
theorem awake_any (m : Int) (w : World) (hM : w.cell? ⟨0, 0, none⟩ = some (.int .i64 m)) : Calls Tryd.prog 10 #[] w fun e w' => e = .returned (.bool true) ∧ Below w.heap.size w w' := by
  have HB := startB w
  have HM := Lib.hid hM
  obtain ⟨T, hT⟩ : ∃ T, egT = T := ⟨_, rfl⟩
  have HT : Hid (textV 0 [⟨0, egD⟩] = T) := Lib.hid (by rw [← hT]; exact eg_text)
  have HSZ : Hid ((bs T).size ≤ 1000000) := Lib.hid (by rw [← hT, bs_size]; decide)
  have HPV : Hid (parseV (bs T) = (0, [⟨0, egD⟩], 0, 0)) := Lib.hid (by rw [← hT]; exact eg_parse)
  have q1 : ((bs T).toList == [115, 101, 103, 32, 48, 48, 48, 48, 48, 48, 48, 48, 32, 48, 53, 48, 48, 52, 48, 54, 52, 32, 53, 55, 10, 115, 116, 97, 114, 116, 32, 48, 48, 48, 48, 48, 48, 48, 48, 32, 48, 48, 10]) = true := by rw [text_eq, ← hT]; rfl
  clear hM hT
  go_enter Tryd.func10, Tryd.ntmps10
  go_upto_region 3 with (first | (refine wlLit ?_ 26 4 _ rfl #[.int .u8 5, .int .u8 0, .int .u8 64, .int .u8 100] 5 (fun _ => by kernel_rfl) ?_; exact rfl; intro gD w1 hg1 hg2 ha hb; replace HB := keepB HB hb; have HD := Lib.hid ha; clear ha hb hg1 hg2) | (refine wlLit ?_ 23 1 _ rfl #[.int .u32 0, .slice (some ⟨gD, 0, none⟩) 4 4] 51 (fun _ => by kernel_rfl) ?_; exact rfl; intro gS w2 hg1 hg2 ha hb; replace HB := keepB HB hb; replace HD := keepA HD hb; have HX := Lib.hid (eg_segs HD.out ha); clear ha hb hg1 hg2) | (go_at_call 11; refine (text_any 0 1 (some ⟨gS, 0, none⟩) [⟨0, some ⟨gD, 0, none⟩, 4, egD⟩] _ (by decide) HX.out (by show 1 ≤ 9223372036854775807; decide)).mono ?_; rw [show ([⟨0, some ⟨gD, 0, none⟩, 4, egD⟩] : List SegM).map SegM.v = [⟨0, egD⟩] from rfl, HT.out]; rintro e w3 ⟨rfl, hb⟩; replace HB := keepB HB hb; clear hb) | (go_at_call 15; refine (parseW_any (bs T) m _ ((HB.out.1.cell (World.block_lt_of_cell? w _ HM.out)).trans HM.out) HSZ.out).mono ?_; rw [HPV.out]; rintro e w4 ⟨⟨S, c, ms, rfl, h1, h2, h3⟩, hb⟩; have hn : ms.length = 1 := (by have := congrArg List.length h1; simpa using this); rw [hn]; replace HB := keepB HB hb; clear h1 h2 h3 hb hn) | (refine wlAlloc ?_ 25 rfl (imA 0 none 0 0) zeroIm ?_; exact rfl; intro gI w5 hg hl ha hb; have HG : Hid (w.heap.size ≤ gI) := Lib.hid (Nat.le_trans HB.out.2 hg); have HI := Lib.hid ha; replace HB := keepB HB hb; clear ha hb hg hl) | (refine rowStore ?_ 25 _ _ rfl gI rfl (imA 0 S 1 c) rfl HI.out infoIm rfl (imA_one _ _ _ _) ?_; exact rfl; intro w6 ha ho; replace HI := Lib.hid ha; replace HB := keepBo HB HG.out ho; have i1 : w6.cell? ⟨gI, 1, none⟩ = some (.slice S 1 c) := cellA HI 1; clear ha ho))
  go_wp2_with (first | (go_at_call 13; refine (sum_any (some ⟨gE, 0, none⟩) 2 [200, 100] _ HE.out (by decide)).mono ?_; rw [eg_sum]; rintro e w8 ⟨rfl, hb⟩; replace HB := keepB HB hb; clear hb) | (refine wlLit ?_ 26 2 _ rfl #[.int .u8 200, .int .u8 100] 5 (fun _ => by kernel_rfl) ?_; exact rfl; intro gE w7 hg1 hg2 ha hb; replace HB := keepB HB hb; have HE : Hid (RdA .u8 w7 (some ⟨gE, 0, none⟩) ([200, 100] : List UInt8).length (ints [200, 100])) := Lib.hid (RdA.of_row rfl ha); clear ha hb hg1 hg2))
  go_ret
  exact ⟨rfl, HB.out.1⟩
end Go.Proofs.YtnigkecpiolgeaaDoor.My
/- Words: the wrap of a row that lists variables, with the shape of the first world kept; the witness that lays what is listed. -/
namespace Go.Proofs.YtnigkecpiolgeaaDoor
open Go.ChangeShapes Go.WideShapes Go.ChangeAt Go.RowKit
theorem handed_shaped {H : Type} {enc : TypeId × Value → H} {a : Assume} {C : Checked} {os : Os} {f : FuncId} {fn : Func} {s : ChangeSpec} {conds : List PathCond} {apart fresh handsOn again : Bool} {X : World → Array Value → Prop}
    (hX : ∀ (w w' : World) (args : Array Value), w.heap = w'.heap → X w args → X w' args) (own : ownKnob C.prog.godebug = none) (started : os.Started) (noInit : C.prog.inits.idxOf? f = none) (hfn : C.prog.funcs[f]? = some fn)
    (witness : ∃ (w : World) (tape : Tape) (i : Input), w.os = os ∧ (w.forCall tape i).Shaped C.prog ∧ i.vars = [] ∧ Input.okWide C.prog (w.forCall tape i) .any w.heap.size f i ∧
      ((s.pre enc C.prog fn conds apart (w.forCall tape i).memory i.args ∧ X (w.forCall tape i).memory i.args) ∧ sizedMet enc C.prog fn (OpenSpec.ofChange s) apart (w.forCall tape i).memory i.args) ∧ a.holds C.prog (lone (Frame.enter C.prog f i.args .normal) [] (w.forCall tape i)))
    (contract : ∀ (W : World) (base : Nat) (args : Array Value) (ds gs : List (DataW H)) (before : List MemPlace),
      (∀ (j : Nat) t v, fn.params[j]? = some t → args[j]? = some v → Value.okWide C.prog W .any base t v) → DataW.Whole enc C.prog fn.params.toList s.vars apart W args.toList ds gs before →
      conds.all (PathCond.test C.prog ⟨fn.params.toList, ds, s.plain.varTypes C.prog, gs⟩) = true → (DataW.weightsEach C.prog (fn.params.toList ++ s.plain.varTypes C.prog) (ds ++ gs)).all (· ≤ reachBytes) = true →
      W.ShapedOpen C.prog → X W args → a.holds C.prog (lone (Frame.enter C.prog f args .normal) [] W) →
      Calls C.prog f args W fun e W' => ∃ v, e = .returned v ∧ s.post enc C.prog fn apart fresh handsOn again W args v W') :
    ReturnsInHanded a C os f .any (fun w args => (s.pre enc C.prog fn conds apart w args ∧ X w args) ∧ sizedMet enc C.prog fn (OpenSpec.ofChange s) apart w args) (s.post enc C.prog fn apart fresh handsOn again) := by
  refine returnsInHanded_of_calls own started noInit witness ?_
  intro w tape i _ hsh _ hok hpre hholds
  obtain ⟨_, _, _, fn', hfn', _, _, _, _, hval⟩ := hok
  obtain rfl : fn' = fn := Option.some.inj (hfn'.symm.trans hfn)
  obtain ⟨⟨⟨ds, gs, before, hw, hc⟩, hx⟩, hz⟩ := hpre
  refine (contract (w.forCall tape i) w.heap.size i.args ds gs before hval (DataW.Whole.of_heap (w' := w.forCall tape i) (by rfl) hw) hc (hz.weights hw) hsh (hX _ _ _ (by rfl) hx) hholds).mono fun e W' ⟨v, he, hp⟩ => ?_
  subst he
  exact ChangeSpec.post_blind hp
end Go.Proofs.YtnigkecpiolgeaaDoor
