/- The plain law of joined words and lines. -/
import Derived.Test.YtfpidpdhheickaaNumRLines
set_option linter.unusedVariables false
namespace Go.Proofs.Ytfpidpdhheickaa.My
open Go.RowKit
def toL (x : ByteArray) : List UInt8 := x.data.toList
theorem bs_toL (x : ByteArray) : bs (toL x) = x := rfl
theorem toL_bs (l : List UInt8) : toL (bs l) = l := rfl
theorem toL_len (x : ByteArray) : (toL x).length = x.size := Array.length_toList
theorem bs_ext (l : List UInt8) (a b : Nat) : (bs l).extract a b = bs ((l.drop a).take (b - a)) := ByteArray.extract_mk l a b
theorem mid_step {l : List UInt8} {F i : Nat} (hF : F ≤ i) (hi : i < l.length) : (l.drop F).take (i + 1 - F) = (l.drop F).take (i - F) ++ [l[i]] := by
  have h : i - F < (l.drop F).length := by rw [List.length_drop]; omega
  rw [show i + 1 - F = i - F + 1 by omega, List.take_succ_eq_append_getElem h, List.getElem_drop]
  congr 2
  simp only [show F + (i - F) = i by omega]
def wordsT : List UInt8 → Option (List UInt8) → List (List UInt8)
  | [], none => []
  | [], some p => [p]
  | c :: r, none => if btw c.toNat = true then wordsT r none else wordsT r (some [c])
  | c :: r, some p => if btw c.toNat = true then p :: wordsT r none else wordsT r (some (p ++ [c]))
theorem wordsR_list (l : List UInt8) : ∀ (b i : Nat) (f : Option Nat), i + b = l.length → (∀ F, f = some F → F ≤ i) → wordsR (bs l) b i f = (wordsT (l.drop i) (f.map fun F => (l.drop F).take (i - F))).map bs
  | 0, i, none, h, _ => by rw [List.drop_eq_nil_of_le (by omega)]; rfl
  | 0, i, some F, h, _ => by
    rw [List.drop_eq_nil_of_le (by omega), wordsR, bs_ext, bs_size, show l.length = i by omega]
    rfl
  | b + 1, i, none, h, _ => by
    have hi : i < l.length := by omega
    rw [List.drop_eq_getElem_cons hi, wordsR, bs_at hi]
    show _ = (if btw l[i].toNat = true then _ else _ : List (List UInt8)).map bs
    have e : (l.drop i).take (i + 1 - i) = [l[i]] := by rw [mid_step (Nat.le_refl i) hi, Nat.sub_self]; rfl
    rw [wordsR_list l b (i + 1) none (by omega) (fun F hF => by cases hF), wordsR_list l b (i + 1) (some i) (by omega) (fun F hF => by cases hF; omega)]
    show _ = _
    simp only [Option.map_some, Option.map_none, e]
    split <;> rfl
  | b + 1, i, some F, h, hF => by
    have hi : i < l.length := by omega
    have hF' := hF F rfl
    rw [List.drop_eq_getElem_cons hi, wordsR, bs_at hi]
    show _ = (if btw l[i].toNat = true then _ else _ : List (List UInt8)).map bs
    have e := mid_step hF' hi
    rw [wordsR_list l b (i + 1) none (by omega) (fun F hF => by cases hF), wordsR_list l b (i + 1) (some F) (by omega) (fun F hF => by cases hF; omega), bs_ext]
    simp only [Option.map_some, Option.map_none, e]
    split <;> rfl
theorem wordsT_gap : ∀ (g r : List UInt8), (∀ c ∈ g, btw c.toNat = true) → wordsT (g ++ r) none = wordsT r none
  | [], r, _ => rfl
  | c :: g, r, h => by
    rw [List.cons_append, wordsT, if_pos (h c (by simp)), wordsT_gap g r (fun c hc => h c (by simp [hc]))]
theorem wordsT_in : ∀ (x : List UInt8) (p g r : List UInt8), (∀ c ∈ x, btw c.toNat = false) → g ≠ [] → (∀ c ∈ g, btw c.toNat = true) → wordsT (x ++ g ++ r) (some p) = (p ++ x) :: wordsT r none
  | [], p, g, r, _, hg, hb => by
    cases g with
    | nil => exact absurd rfl hg
    | cons c g =>
      rw [List.nil_append, List.cons_append, wordsT, if_pos (hb c (by simp)), wordsT_gap g r (fun c hc => hb c (by simp [hc])), List.append_nil]
  | c :: x, p, g, r, h, hg, hb => by
    rw [List.cons_append, List.cons_append, wordsT, if_neg (by rw [h c (by simp)]; decide), wordsT_in x (p ++ [c]) g r (fun c hc => h c (by simp [hc])) hg hb, List.append_assoc]
    rfl
theorem wordsT_one (x g r : List UInt8) (hx : x ≠ []) (h : ∀ c ∈ x, btw c.toNat = false) (hg : g ≠ []) (hb : ∀ c ∈ g, btw c.toNat = true) : wordsT (x ++ g ++ r) none = x :: wordsT r none := by
  cases x with
  | nil => exact absurd rfl hx
  | cons c x =>
    rw [List.cons_append, List.cons_append, wordsT, if_neg (by rw [h c (by simp)]; decide), wordsT_in x [c] g r (fun c hc => h c (by simp [hc])) hg hb]
    rfl
/-- The words, each with the gap behind it, and the gap ahead. -/
def joinW (g : List UInt8) (ws : List ByteArray) : ByteArray := bs (g ++ (ws.map fun x => toL x ++ g).flatten)
theorem joinW_step (g : List UInt8) (ws : List ByteArray) (x : ByteArray) : joinW g ws ++ x ++ bs g = joinW g (ws ++ [x]) := by
  have e : x = bs (toL x) := rfl
  conv => lhs; rw [e]
  unfold joinW
  rw [bs_add, bs_add, List.map_append, List.flatten_append]
  simp
theorem words_join (g : List UInt8) (hg : g ≠ []) (hb : ∀ c ∈ g, btw c.toNat = true) (ws : List ByteArray) (h : ∀ x ∈ ws, x.size ≠ 0 ∧ ∀ c ∈ toL x, btw c.toNat = false) : wordsL (joinW g ws) = ws := by
  have key : ∀ ws : List ByteArray, (∀ x ∈ ws, x.size ≠ 0 ∧ ∀ c ∈ toL x, btw c.toNat = false) → wordsT (ws.map fun x => toL x ++ g).flatten none = ws.map toL := by
    intro ws
    induction ws with
    | nil => intro _; rfl
    | cons x r ih =>
      intro h
      have hx := h x (by simp)
      rw [List.map_cons, List.flatten_cons, wordsT_one (toL x) g _ (fun q => hx.1 (by rw [← toL_len, q]; rfl)) hx.2 hg hb, ih (fun y hy => h y (by simp [hy]))]
      rfl
  unfold wordsL joinW
  rw [bs_size, wordsR_list _ _ 0 none (by omega) (fun F hF => by cases hF), List.drop_zero]
  show (wordsT _ none).map bs = ws
  rw [wordsT_gap g _ hb, key ws h, List.map_map]
  show ws.map (fun x => bs (toL x)) = ws
  simp [bs_toL]
def linesT : List UInt8 → List UInt8 → List (List UInt8)
  | [], _ => []
  | c :: r, p => if c.toNat = 10 then p :: linesT r [] else linesT r (p ++ [c])
theorem linesR_list (l : List UInt8) : ∀ (b i F : Nat), i + b = l.length → F ≤ i → linesR (bs l) b i F = (linesT (l.drop i) ((l.drop F).take (i - F))).map bs
  | 0, i, F, h, _ => by rw [List.drop_eq_nil_of_le (by omega)]; rfl
  | b + 1, i, F, h, hF => by
    have hi : i < l.length := by omega
    rw [List.drop_eq_getElem_cons hi, linesR, bs_at hi, linesR_list l b (i + 1) (i + 1) (by omega) (Nat.le_refl _), linesR_list l b (i + 1) F (by omega) (by omega), bs_ext, mid_step hF hi, Nat.sub_self]
    show _ = (if l[i].toNat = 10 then _ else _ : List (List UInt8)).map bs
    simp only [List.take_zero]
    split <;> rfl
theorem linesT_one : ∀ (x p r : List UInt8), (∀ c ∈ x, c.toNat ≠ 10) → linesT (x ++ [10] ++ r) p = (p ++ x) :: linesT r []
  | [], p, r, _ => by
    show (if (10 : UInt8).toNat = 10 then _ else _ : List (List UInt8)) = _
    rw [if_pos (show UInt8.toNat 10 = 10 from rfl), List.append_nil]
    rfl
  | c :: x, p, r, h => by
    rw [List.cons_append, List.cons_append, linesT, if_neg (h c (by simp)), linesT_one x (p ++ [c]) r (fun c hc => h c (by simp [hc])), List.append_assoc]
    rfl
def joinL (ls : List ByteArray) : ByteArray := bs (ls.map fun x => toL x ++ [10]).flatten
theorem joinL_step (ls : List ByteArray) (x : ByteArray) : joinL ls ++ x ++ bs [10] = joinL (ls ++ [x]) := by
  have e : x = bs (toL x) := rfl
  conv => lhs; rw [e]
  unfold joinL
  rw [bs_add, bs_add, List.map_append, List.flatten_append]
  simp
theorem feeds_le (s : ByteArray) : ∀ b i, feedsR s b i ≤ b
  | 0, _ => Nat.le_refl _
  | b + 1, i => by have := feeds_le s b (i + 1); unfold feedsR; split <;> omega
theorem joinL_size (ls : List ByteArray) (h : ∀ x ∈ ls, x.size ≤ 50) : (joinL ls).size ≤ 51 * ls.length := by
  unfold joinL
  rw [bs_size]
  induction ls with
  | nil => exact Nat.zero_le _
  | cons x r ih =>
    have h1 := h x (by simp)
    have h2 := ih (fun y hy => h y (by simp [hy]))
    rw [List.map_cons, List.flatten_cons, List.length_append, List.length_append, toL_len, show ([10] : List UInt8).length = 1 from rfl, List.length_cons]
    omega
theorem joinW_size (g : List UInt8) (hg : g.length ≤ 2) (ws : List ByteArray) (h : ∀ x ∈ ws, x.size ≤ 50) : (joinW g ws).size ≤ 2 + 52 * ws.length := by
  unfold joinW
  rw [bs_size, List.length_append]
  have key : ((ws.map fun x => toL x ++ g).flatten).length ≤ 52 * ws.length := by
    induction ws with
    | nil => exact Nat.zero_le _
    | cons x r ih =>
      have h1 := h x (by simp)
      have h2 := ih (fun y hy => h y (by simp [hy]))
      rw [List.map_cons, List.flatten_cons, List.length_append, List.length_append, toL_len, List.length_cons]
      omega
  omega
theorem lines_join (ls : List ByteArray) (hl : ls.length ≤ 40) (h : ∀ x ∈ ls, x.size ≤ 50 ∧ ∀ c ∈ toL x, 32 ≤ c.toNat ∧ c.toNat ≤ 126) : linesV (joinL ls) = (ls, 0) := by
  have hs := joinL_size ls (fun x hx => (h x hx).1)
  have hf := feeds_le (joinL ls) (joinL ls).size 0
  have nl : ¬ longL (joinL ls) := by rintro (q | q) <;> omega
  have mem : ∀ c ∈ (ls.map fun x => toL x ++ [10]).flatten, okc c.toNat = true := by
    intro c hc
    obtain ⟨l, hl1, hl2⟩ := List.mem_flatten.1 hc
    obtain ⟨x, hx, rfl⟩ := List.mem_map.1 hl1
    rcases List.mem_append.1 hl2 with q | q
    · exact okc_mid ((h x hx).2 c q).1 ((h x hx).2 c q).2
    · rw [show c = 10 by simpa using q]; rfl
  have nf : ¬ formL (joinL ls) := by
    rintro (⟨q, r⟩ | q)
    · apply r
      rcases List.eq_nil_or_concat ls with rfl | ⟨ls', x, rfl⟩
      · simp [joinL, bs_size] at q
      · have e : joinL (ls' ++ [x]) = bs ((ls'.map fun x => toL x ++ [10]).flatten ++ toL x ++ [10]) := by
          unfold joinL; rw [List.map_append, List.flatten_append]; simp
        rw [List.concat_eq_append] at *
        rw [e, bs_size, bs_at (by simp)]
        simp
    · have : plainR (joinL ls) (joinL ls).size 0 = true := plain_all fun i hi => by
        have hi2 : i < (ls.map fun x => toL x ++ [10]).flatten.length := by unfold joinL at hi; rwa [bs_size] at hi
        unfold joinL
        rw [bs_at hi2]
        exact mem _ (List.getElem_mem hi2)
      rw [this] at q; cases q
  have key : ∀ ls : List ByteArray, (∀ x ∈ ls, ∀ c ∈ toL x, c.toNat ≠ 10) → linesT (ls.map fun x => toL x ++ [10]).flatten [] = ls.map toL := by
    intro ls
    induction ls with
    | nil => intro _; rfl
    | cons x r ih =>
      intro h
      rw [List.map_cons, List.flatten_cons, linesT_one (toL x) [] _ (h x (by simp)), ih (fun y hy => h y (by simp [hy]))]
      rfl
  unfold linesV
  rw [if_neg nl, if_neg nf]
  congr 1
  unfold joinL
  rw [bs_size, linesR_list _ _ 0 0 (by omega) (Nat.le_refl _), List.drop_zero]
  show (linesT _ []).map bs = ls
  rw [key ls (fun x hx c hc => by have := ((h x hx).2 c hc).1; omega), List.map_map]
  show ls.map (fun x => bs (toL x)) = ls
  simp [bs_toL]
end Go.Proofs.Ytfpidpdhheickaa.My
