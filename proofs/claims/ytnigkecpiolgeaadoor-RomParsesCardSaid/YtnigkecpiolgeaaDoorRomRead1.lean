/- Plain: a line read as the reference reads it. -/
import Derived.Test.YtnigkecpiolgeaaDoorRomGd
set_option linter.unusedVariables false
set_option linter.unusedSimpArgs false
namespace Go.Proofs.YtnigkecpiolgeaaDoor.My
open Go.RowKit
/-- The number that digits are. -/
def hexN : List UInt8 → Nat → Option Nat
  | [], n => some n
  | c :: r, n => if hv (c.toNat : Int) < 0 then none else hexN r (16 * n + (hv (c.toNat : Int)).toNat)
def optI : Option Nat → Int
  | none => -1
  | some n => n
def beN : List UInt8 → Nat → Nat
  | [], n => n
  | c :: r, n => beN r (256 * n + c.toNat)
theorem hexN_hexs : ∀ (d : List UInt8) (n : Nat), hexN (hexsL d) n = some (beN d n)
  | [], n => rfl
  | c :: d, n => by
    have hc := c.toNat_lt
    rw [hexsL_cons, hexN, hv_hd (show c.toNat / 16 < 16 by omega), if_neg (by omega), hexN, hv_hd (show c.toNat % 16 < 16 by omega), if_neg (by omega), hexN_hexs d, beN]
    congr 2
    omega
theorem pair_nat {a b : UInt8} (ha : ¬ hv (a.toNat : Int) < 0) (hb : ¬ hv (b.toNat : Int) < 0) : (pairV a b).toNat = 16 * (hv (a.toNat : Int)).toNat + (hv (b.toNat : Int)).toNat := by
  have la := hv_lt (a.toNat : Int)
  have lb := hv_lt (b.toNat : Int)
  unfold pairV
  rw [UInt8.toNat_ofNat', Nat.mod_eq_of_lt (by omega)]
theorem hexs_hexN : ∀ (l : List UInt8) (n m : Nat), l.length % 2 = 0 → hexN l n = some m → ∃ d, l = hexsL d ∧ m = beN d n
  | [], n, m, _, h => by injection h with h; exact ⟨[], rfl, h.symm⟩
  | [_], n, m, h, _ => by simp at h
  | a :: b :: r, n, m, hl, h => by
    rw [hexN] at h
    split at h
    · cases h
    · rename_i ha
      rw [hexN] at h
      split at h
      · cases h
      · rename_i hb
        obtain ⟨d, rfl, rfl⟩ := hexs_hexN r _ m (by simp at hl; omega) h
        refine ⟨pairV a b :: d, ?_, ?_⟩
        · show [a, b] ++ hexsL d = twoL (pairV a b).toNat ++ hexsL d
          rw [← two_pair ha hb]
        · rw [beN, pair_nat ha hb]
          congr 1
          omega
def segS : List UInt8 := [115, 101, 103, 32]
def andS : List UInt8 := [97, 110, 100, 32]
def startS : List UInt8 := [115, 116, 97, 114, 116, 32]
def kind1 (l : List UInt8) : Nat := if 4 < l.length ∧ l.take 4 = segS then 1 else 0
def kind2 (l : List UInt8) : Nat := if 4 < l.length ∧ l.take 4 = andS then 2 else kind1 l
def kind3 (l : List UInt8) : Nat := if 6 < l.length ∧ l.take 6 = startS then 3 else kind2 l
def fromR (l : List UInt8) : Nat := if 6 < l.length ∧ l.take 6 = startS then 6 else 4
/-- A line as the reference reads it. -/
def readV (l : List UInt8) : RowV :=
  if kind3 l = 0 ∨ l.length < fromR l + 11 ∨ l[fromR l + 8]? ≠ some 32 then rowZ
  else
    let at_ := optI (hexN ((l.drop (fromR l)).take 8) 0)
    let dt := l.drop (fromR l + 9)
    if kind3 l = 3 then
      if dt.length ≠ 2 ∨ at_ < 0 ∨ optI (hexN dt 0) < 0 then rowZ else ⟨3, at_.toNat, [], (optI (hexN dt 0)).toNat⟩
    else
      if at_ < 0 ∨ dt.length < 5 ∨ 35 < dt.length ∨ (dt.length - 3) % 2 ≠ 0 ∨ dt[dt.length - 3]? ≠ some 32 ∨ optI (hexN (dt.drop (dt.length - 2)) 0) < 0 then rowZ
      else match hexP (dt.take (dt.length - 3)) with
        | none => rowZ
        | some d => ⟨kind3 l, at_.toNat, d, (optI (hexN (dt.drop (dt.length - 2)) 0)).toNat⟩
theorem kind3_cases (l : List UInt8) : (kind3 l = 0 ∧ fromR l = 4) ∨ (kind3 l = 1 ∧ fromR l = 4 ∧ l = segW ++ 32 :: l.drop 4) ∨ (kind3 l = 2 ∧ fromR l = 4 ∧ l = andW ++ 32 :: l.drop 4) ∨ (kind3 l = 3 ∧ fromR l = 6 ∧ l = startW ++ 32 :: l.drop 6) := by
  unfold kind3 fromR
  split
  · rename_i h
    refine .inr (.inr (.inr ⟨rfl, rfl, ?_⟩))
    have := List.take_append_drop 6 l
    rw [h.2] at this
    exact this.symm
  · unfold kind2
    split
    · rename_i h
      refine .inr (.inr (.inl ⟨rfl, rfl, ?_⟩))
      have := List.take_append_drop 4 l
      rw [h.2] at this
      exact this.symm
    · unfold kind1
      split
      · rename_i h
        refine .inr (.inl ⟨rfl, rfl, ?_⟩)
        have := List.take_append_drop 4 l
        rw [h.2] at this
        exact this.symm
      · exact .inl ⟨rfl, rfl⟩
theorem hexN8 {l : List UInt8} (h8 : l.length = 8) (h : ¬ optI (hexN l 0) < 0) : ∃ u, u < 4294967296 ∧ l = hexL u ∧ optI (hexN l 0) = u := by
  cases hq : hexN l 0 with
  | none => rw [hq] at h; exact absurd (by decide : (-1 : Int) < 0) h
  | some m =>
    obtain ⟨d, rfl, rfl⟩ := hexs_hexN l 0 m (by omega) hq
    rw [hexsL_len] at h8
    have h4 : d.length = 4 := by omega
    refine ⟨be4 d, be4_lt d, ?_, ?_⟩
    · rw [hexL_ta (be4_lt d), ta_be4 h4]
    · match d, h4 with
      | [a, b, c, e], _ =>
        show ((256 * (256 * (256 * (256 * 0 + a.toNat) + b.toNat) + c.toNat) + e.toNat : Nat) : Int) = _
        unfold be4
        simp only [List.getD_cons_zero, List.getD_cons_succ]
        omega
theorem hexN2 {l : List UInt8} (h8 : l.length = 2) (h : ¬ optI (hexN l 0) < 0) : ∃ s, s < 256 ∧ l = twoL s ∧ optI (hexN l 0) = s := by
  cases hq : hexN l 0 with
  | none => rw [hq] at h; exact absurd (by decide : (-1 : Int) < 0) h
  | some m =>
    obtain ⟨d, rfl, rfl⟩ := hexs_hexN l 0 m (by omega) hq
    rw [hexsL_len] at h8
    have h4 : d.length = 1 := by omega
    match d, h4 with
    | [a], _ =>
      refine ⟨a.toNat, a.toNat_lt, ?_, ?_⟩
      · show twoL a.toNat ++ [] = _; rw [List.append_nil]
      · show ((256 * 0 + a.toNat : Nat) : Int) = _
        omega
theorem hexN_L {u : Nat} (h : u < 4294967296) : optI (hexN (hexL u) 0) = u := by
  have h8 : (hexL u).length = 8 := hexL_len u
  rw [hexL_ta h, hexN_hexs]
  show ((256 * (256 * (256 * (256 * 0 + (UInt8.ofNat _).toNat) + (UInt8.ofNat _).toNat) + (UInt8.ofNat _).toNat) + (UInt8.ofNat _).toNat : Nat) : Int) = _
  rw [toNat_of (show u / 16777216 < 256 by omega), toNat_of (show u / 65536 % 256 < 256 by omega), toNat_of (show u / 256 % 256 < 256 by omega), toNat_of (show u % 256 < 256 by omega)]
  omega
theorem hexN_two {s : Nat} (h : s < 256) : optI (hexN (twoL s) 0) = s := by
  rw [two_one h, hexN_hexs]
  show ((256 * 0 + (UInt8.ofNat _).toNat : Nat) : Int) = _
  rw [toNat_of h]
  omega
theorem cut_at {l : List UInt8} {k : Nat} {c : UInt8} (h : l[k]? = some c) : l = l.take k ++ c :: l.drop (k + 1) := by
  obtain ⟨h1, h2⟩ := List.getElem?_eq_some_iff.1 h
  have := List.take_append_drop k l
  rw [List.drop_eq_getElem_cons h1, h2] at this
  exact this.symm
theorem read_back {l : List UInt8} (h : (readV l).kind ≠ 0) : RowOk (readV l) ∧ l = fmtL (readV l) := by
  by_cases h1 : kind3 l = 0 ∨ l.length < fromR l + 11 ∨ l[fromR l + 8]? ≠ some 32
  · unfold readV at h
    rw [if_pos h1] at h
    exact absurd rfl h
  have k0 : ¬ kind3 l = 0 := fun q => h1 (.inl q)
  have k1 : ¬ l.length < fromR l + 11 := fun q => h1 (.inr (.inl q))
  have k2 : l[fromR l + 8]? = some 32 := Classical.byContradiction fun q => h1 (.inr (.inr q))
  unfold readV at h ⊢
  rw [if_neg h1] at h ⊢
  simp only at h ⊢
  obtain ⟨F, hF⟩ : ∃ F, fromR l = F := ⟨_, rfl⟩
  obtain ⟨K, hK⟩ : ∃ K, kind3 l = K := ⟨_, rfl⟩
  rw [hF, hK] at h ⊢
  rw [hF] at k1 k2
  rw [hK] at k0
  obtain ⟨X, hX⟩ : ∃ X, (l.drop F).take 8 = X := ⟨_, rfl⟩
  obtain ⟨dt, hdt⟩ : ∃ dt, l.drop (F + 9) = dt := ⟨_, rfl⟩
  have hXl : X.length = 8 := by rw [← hX, List.length_take, List.length_drop]; omega
  have hdl : dt.length = l.length - (F + 9) := by rw [← hdt, List.length_drop]
  have hmid : l.drop F = X ++ 32 :: dt := by
    have := cut_at (l := l.drop F) (k := 8) (c := 32) (by rw [List.getElem?_drop]; exact k2)
    rw [hX, List.drop_drop] at this
    rw [this]
    rw [← hdt]
  have hall : l = kindW K ++ 32 :: (X ++ 32 :: dt) := by
    rcases kind3_cases l with ⟨a, b⟩ | ⟨a, b, c⟩ | ⟨a, b, c⟩ | ⟨a, b, c⟩
    all_goals rw [hK] at a; subst a
    · exact absurd rfl k0
    all_goals rw [hF] at b; subst b; rw [hmid] at c; exact c
  rw [hX, hdt] at h ⊢
  have hK4 : K = 1 ∨ K = 2 ∨ K = 3 := by
    rcases kind3_cases l with ⟨a, b⟩ | ⟨a, b, c⟩ | ⟨a, b, c⟩ | ⟨a, b, c⟩
    all_goals rw [hK] at a; subst a
    · exact absurd rfl k0
    · exact .inl rfl
    · exact .inr (.inl rfl)
    · exact .inr (.inr rfl)
  clear hX hdt hmid hF hK h1 k2
  by_cases h3 : K = 3
  · subst h3
    rw [if_pos rfl] at h ⊢
    split at h
    · exact absurd rfl h
    · rename_i g
      rw [if_neg g]
      obtain ⟨u, hu, rfl, e1⟩ := hexN8 hXl (fun q => g (.inr (.inl q)))
      obtain ⟨s, hs, rfl, e2⟩ := hexN2 (l := dt) (Classical.byContradiction fun q => g (.inl q)) (fun q => g (.inr (.inr q)))
      rw [e1, e2, Int.toNat_natCast, Int.toNat_natCast]
      refine ⟨⟨.inr ⟨rfl, rfl⟩, hu, hs⟩, ?_⟩
      rw [hall]; rfl
  · rw [if_neg h3] at h ⊢
    split at h
    · exact absurd rfl h
    · rename_i g
      rw [if_neg g]
      obtain ⟨u, hu, rfl, e1⟩ := hexN8 hXl (fun q => g (.inl q))
      have g5 : ¬ dt.length < 5 := fun q => g (.inr (.inl q))
      have g35 : ¬ 35 < dt.length := fun q => g (.inr (.inr (.inl q)))
      have gc : dt[dt.length - 3]? = some 32 := Classical.byContradiction fun q => g (.inr (.inr (.inr (.inr (.inl q)))))
      obtain ⟨s, hs, hz, e2⟩ := hexN2 (l := dt.drop (dt.length - 2)) (by rw [List.length_drop]; omega) (fun q => g (.inr (.inr (.inr (.inr (.inr q))))))
      have hd := cut_at gc
      rw [show dt.length - 3 + 1 = dt.length - 2 by omega, hz] at hd
      cases hp : hexP (dt.take (dt.length - 3)) with
      | none => rw [hp] at h; exact absurd rfl h
      | some d =>
        have hl := hexP_len _ _ hp
        rw [List.length_take] at hl
        have hh := hexs_hexP _ _ hp
        rw [hh] at hd
        simp only
        rw [e1, e2, Int.toNat_natCast, Int.toNat_natCast]
        refine ⟨⟨.inl ⟨by rcases hK4 with a | a | a; exact .inl a; exact .inr a; exact absurd a h3, by show 1 ≤ d.length; omega, by show d.length ≤ 16; omega⟩, hu, hs⟩, ?_⟩
        unfold fmtL
        rw [if_neg h3, hall, hd]
theorem read_fmt {r : RowV} (h : RowOk r) : readV (fmtL r) = r := by
  obtain ⟨k, u, d, s⟩ := r
  obtain ⟨h1, h2, h3⟩ := h
  simp only at h1 h2 h3
  have l8 : (hexL u).length = 8 := hexL_len u
  have l2 : (twoL s).length = 2 := rfl
  have cc : ∀ (W R : List UInt8), (W ++ 32 :: (hexL u ++ 32 :: R))[W.length + 1 + 8]? = some 32 := fun W R => by
    rw [List.getElem?_append_right (by omega), show W.length + 1 + 8 - W.length = 8 + 1 by omega, List.getElem?_cons_succ, List.getElem?_append_right (by omega), l8]; rfl
  have cx : ∀ (W R : List UInt8), ((W ++ 32 :: (hexL u ++ 32 :: R)).drop (W.length + 1)).take 8 = hexL u := fun W R => by
    rw [List.drop_append, List.drop_eq_nil_of_le (by omega), show W.length + 1 - W.length = 1 by omega, List.nil_append, List.drop_succ_cons, List.drop_zero, List.take_append_of_le_length (by omega), List.take_of_length_le (by omega)]
  have cd : ∀ (W R : List UInt8), (W ++ 32 :: (hexL u ++ 32 :: R)).drop (W.length + 1 + 9) = R := fun W R => by
    rw [List.drop_append, List.drop_eq_nil_of_le (by omega), show W.length + 1 + 9 - W.length = 9 + 1 by omega, List.nil_append, List.drop_succ_cons, List.drop_append, List.drop_eq_nil_of_le (by omega), l8]; rfl
  rcases h1 with ⟨hk, d1, d2⟩ | ⟨rfl, rfl⟩
  · obtain ⟨R, hR⟩ : ∃ R, hexsL d ++ 32 :: twoL s = R := ⟨_, rfl⟩
    have hf : fmtL ⟨k, u, d, s⟩ = kindW k ++ 32 :: (hexL u ++ 32 :: R) := by unfold fmtL; rw [if_neg (by show ¬ k = 3; omega), ← hR]
    have hRl : R.length = 2 * d.length + 3 := by rw [← hR, List.length_append, hexsL_len, List.length_cons, l2]
    have hw : (kindW k).length = 3 := by rcases hk with rfl | rfl <;> rfl
    have hk3 : kind3 (kindW k ++ 32 :: (hexL u ++ 32 :: R)) = k ∧ fromR (kindW k ++ 32 :: (hexL u ++ 32 :: R)) = 4 := by
      have hlen : (kindW k ++ 32 :: (hexL u ++ 32 :: R)).length > 6 := by simp [hw, l8]; omega
      rcases hk with rfl | rfl
      · have t6 : ¬ (kindW 1 ++ 32 :: (hexL u ++ 32 :: R)).take 6 = startS := by intro q; injection q with _ q; injection q with q _; exact absurd q (by decide)
        have t4 : ¬ (kindW 1 ++ 32 :: (hexL u ++ 32 :: R)).take 4 = andS := by intro q; injection q with q _; exact absurd q (by decide)
        have t5 : (kindW 1 ++ 32 :: (hexL u ++ 32 :: R)).take 4 = segS := rfl
        unfold kind3 fromR kind2 kind1
        exact ⟨(if_neg (fun q => t6 q.2)).trans ((if_neg (fun q => t4 q.2)).trans (if_pos ⟨by omega, t5⟩)), if_neg (fun q => t6 q.2)⟩
      · have t6 : ¬ (kindW 2 ++ 32 :: (hexL u ++ 32 :: R)).take 6 = startS := by intro q; injection q with q _; exact absurd q (by decide)
        have t5 : (kindW 2 ++ 32 :: (hexL u ++ 32 :: R)).take 4 = andS := rfl
        unfold kind3 fromR kind2
        exact ⟨(if_neg (fun q => t6 q.2)).trans (if_pos ⟨by omega, t5⟩), if_neg (fun q => t6 q.2)⟩
    have hlen : (kindW k ++ 32 :: (hexL u ++ 32 :: R)).length = R.length + 13 := by simp [hw, l8]; omega
    rw [hf]
    unfold readV
    rw [hk3.1, hk3.2]
    have c1 := cc (kindW k) R
    have c2 := cx (kindW k) R
    have c3 := cd (kindW k) R
    rw [hw] at c1 c2 c3
    rw [if_neg (by rintro (q | q | q); omega; omega; exact q c1)]
    simp only
    rw [c2, c3, if_neg (by omega), hexN_L h2]
    have e1 : R[R.length - 3]? = some 32 := by rw [hRl, ← hR, List.getElem?_append_right (by rw [hexsL_len]; omega), hexsL_len, show 2 * d.length + 3 - 3 - 2 * d.length = 0 by omega]; rfl
    have e2 : R.drop (R.length - 2) = twoL s := by rw [hRl, ← hR, List.drop_append, List.drop_eq_nil_of_le (by rw [hexsL_len]; omega), hexsL_len, show 2 * d.length + 3 - 2 - 2 * d.length = 0 + 1 by omega]; rfl
    have e3 : R.take (R.length - 3) = hexsL d := by rw [hRl, ← hR, List.take_append_of_le_length (by rw [hexsL_len]; omega), List.take_of_length_le (by rw [hexsL_len]; omega)]
    rw [e1, e2, e3, hexN_two h3, hexP_hexs]
    rw [if_neg (by rintro (q | q | q | q | q | q); omega; omega; omega; omega; exact q rfl; omega)]
    simp only
    rw [Int.toNat_natCast, Int.toNat_natCast]
  · have hf : fmtL ⟨3, u, [], s⟩ = startW ++ 32 :: (hexL u ++ 32 :: twoL s) := rfl
    have hlen : (startW ++ 32 :: (hexL u ++ 32 :: twoL s)).length = 17 := by simp [l8, l2, startW]
    have hk3 : kind3 (startW ++ 32 :: (hexL u ++ 32 :: twoL s)) = 3 ∧ fromR (startW ++ 32 :: (hexL u ++ 32 :: twoL s)) = 6 := by
      have t6 : (startW ++ 32 :: (hexL u ++ 32 :: twoL s)).take 6 = startS := rfl
      unfold kind3 fromR
      exact ⟨if_pos ⟨by omega, t6⟩, if_pos ⟨by omega, t6⟩⟩
    rw [hf]
    unfold readV
    rw [hk3.1, hk3.2]
    have c1 := cc startW (twoL s)
    have c2 := cx startW (twoL s)
    have c3 := cd startW (twoL s)
    rw [show startW.length = 5 from rfl] at c1 c2 c3
    rw [if_neg (by rintro (q | q | q); omega; omega; exact q c1)]
    simp only
    rw [c2, c3]
    refine (if_pos trivial).trans ?_
    rw [hexN_L h2, hexN_two h3, if_neg (by rintro (q | q | q); exact q l2; omega; omega), Int.toNat_natCast, Int.toNat_natCast]
theorem rowZ_of {l : List UInt8} (h : (rowV l).kind = 0) : rowV l = rowZ := by
  have key : ∀ (k : Nat) (a z : List UInt8 × Bool) (d : Option (List UInt8 × Bool)), k ≠ 0 → (rowK k a z d).kind = 0 → rowK k a z d = rowZ := by
    intro k a z d hk h
    unfold rowK at h ⊢
    split at h
    · rename_i g
      rw [if_pos g]
      cases d with
      | none => exact absurd h hk
      | some d =>
        simp only at h ⊢
        split at h
        · exact absurd h hk
        · rename_i g2; rw [if_neg g2]
    · rename_i g; rw [if_neg g]
  unfold rowV at h ⊢
  match splitL l, h with
  | [], _ => rfl
  | [_], _ => rfl
  | [_, _], _ => rfl
  | [p0, p1, p2], h =>
    by_cases q : p0 = startW
    · have e : rowP [p0, p1, p2] = rowK 3 (hexV p1) (hexV p2) none := if_pos q
      rw [e] at h ⊢; exact key _ _ _ _ (by decide) h
    · exact if_neg q
  | [p0, p1, p2, p3], h =>
    by_cases q : p0 = segW
    · have e : rowP [p0, p1, p2, p3] = rowK 1 (hexV p1) (hexV p3) (some (hexV p2)) := if_pos q
      rw [e] at h ⊢; exact key _ _ _ _ (by decide) h
    · by_cases q2 : p0 = andW
      · have e : rowP [p0, p1, p2, p3] = rowK 2 (hexV p1) (hexV p3) (some (hexV p2)) := (if_neg q).trans (if_pos q2)
        rw [e] at h ⊢; exact key _ _ _ _ (by decide) h
      · exact (if_neg q).trans (if_neg q2)
  | _ :: _ :: _ :: _ :: _ :: _, _ => rfl
theorem readZ_of {l : List UInt8} (h : (readV l).kind = 0) : readV l = rowZ := by
  unfold readV at h ⊢
  split at h
  · rename_i g; rw [if_pos g]
  · rename_i g
    rw [if_neg g]
    simp only at h ⊢
    split at h
    · rename_i g3
      rw [if_pos g3]
      split at h
      · rename_i g4; rw [if_pos g4]
      · exact absurd (show 3 = 0 from h) (by decide)
    · rename_i g3
      rw [if_neg g3]
      split at h
      · rename_i g4; rw [if_pos g4]
      · rename_i g4
        rw [if_neg g4]
        split at h
        · rfl
        · exact absurd h (fun q => g (.inl q))
/-- The reference reads a line as the program does. -/
theorem read_row (l : List UInt8) : readV l = rowV l := by
  by_cases h1 : (rowV l).kind = 0
  · by_cases h2 : (readV l).kind = 0
    · rw [rowZ_of h1, readZ_of h2]
    · obtain ⟨a, b⟩ := read_back h2
      have := row_fmt a
      rw [← b] at this
      exact this.symm
  · obtain ⟨a, b⟩ := fmt_row h1
    have := read_fmt a
    rw [← b] at this
    exact this
end Go.Proofs.YtnigkecpiolgeaaDoor.My
