import Derived.Test.YtnigkecpiolgeaaDoorRomGb
import Derived.Test.YtnigkecpiolgeaaDoorRomGc
import Derived.Test.YtnigkecpiolgeaaDoorRomGa
/- Plain: digits and their bytes; parts of a line, cut at blanks; a line as it is written, and read. -/
set_option linter.unusedVariables false
set_option linter.unusedSimpArgs false
namespace Go.Proofs.YtnigkecpiolgeaaDoor.My
open Go.RowKit
theorem hv_hd {k : Nat} (h : k < 16) : hv ((hd k).toNat : Int) = k := by
  have key : ∀ i : Fin 16, hv ((hd i.val).toNat : Int) = (i.val : Int) := by decide +kernel
  exact key ⟨k, h⟩
theorem hd_hv {c : UInt8} (h : ¬ hv (c.toNat : Int) < 0) : c = hd (hv (c.toNat : Int)).toNat := by
  have key : ∀ i : Fin 256, ¬ hv ((i.val : Nat) : Int) < 0 → UInt8.ofNat i.val = hd (hv ((i.val : Nat) : Int)).toNat := by decide +kernel
  have := key ⟨c.toNat, c.toNat_lt⟩ h
  rwa [UInt8.ofNat_toNat] at this
theorem hd_ne {k : Nat} (h : k < 16) : hd k ≠ 32 ∧ hd k ≠ 10 := by
  have key : ∀ i : Fin 16, hd i.val ≠ 32 ∧ hd i.val ≠ 10 := by decide +kernel
  exact key ⟨k, h⟩
theorem pair_two (c : UInt8) : pairV (hd (c.toNat / 16)) (hd (c.toNat % 16)) = c := by
  have hc := c.toNat_lt
  unfold pairV
  rw [hv_hd (show c.toNat / 16 < 16 by omega), hv_hd (show c.toNat % 16 < 16 by omega)]
  simp only [Int.toNat_natCast]
  rw [show 16 * (c.toNat / 16) + c.toNat % 16 = c.toNat by omega, UInt8.ofNat_toNat]
theorem two_pair {a b : UInt8} (ha : ¬ hv (a.toNat : Int) < 0) (hb : ¬ hv (b.toNat : Int) < 0) : [a, b] = twoL (pairV a b).toNat := by
  have la := hv_lt (a.toNat : Int)
  have lb := hv_lt (b.toNat : Int)
  have e : (pairV a b).toNat = 16 * (hv (a.toNat : Int)).toNat + (hv (b.toNat : Int)).toNat := by
    unfold pairV
    rw [UInt8.toNat_ofNat', Nat.mod_eq_of_lt (by omega)]
  unfold twoL
  rw [e, show (16 * (hv (a.toNat : Int)).toNat + (hv (b.toNat : Int)).toNat) / 16 = (hv (a.toNat : Int)).toNat by omega, show (16 * (hv (a.toNat : Int)).toNat + (hv (b.toNat : Int)).toNat) % 16 = (hv (b.toNat : Int)).toNat by omega, ← hd_hv ha, ← hd_hv hb]
theorem hexsL_cons (c : UInt8) (d : List UInt8) : hexsL (c :: d) = hd (c.toNat / 16) :: hd (c.toNat % 16) :: hexsL d := rfl
theorem hexP_hexs : ∀ d : List UInt8, hexP (hexsL d) = some d
  | [] => rfl
  | c :: d => by
    have hc := c.toNat_lt
    rw [hexsL_cons, hexP, if_neg, hexP_hexs d, pair_two]
    · rfl
    · rw [hv_hd (show c.toNat / 16 < 16 by omega), hv_hd (show c.toNat % 16 < 16 by omega)]
      omega
theorem hexs_hexP : ∀ (p d : List UInt8), hexP p = some d → p = hexsL d
  | [], d, h => by
    injection h with h
    subst h; rfl
  | [_], d, h => by cases h
  | a :: b :: r, d, h => by
    rw [hexP] at h
    split at h
    · cases h
    · rename_i q
      cases hq : hexP r with
      | none => rw [hq] at h; cases h
      | some e =>
        rw [hq] at h
        injection h with h
        subst h
        have hr := hexs_hexP r e hq
        have h2 := two_pair (a := a) (b := b) (fun x => q (.inl x)) (fun x => q (.inr x))
        show a :: b :: r = twoL (pairV a b).toNat ++ hexsL e
        rw [← h2, hr]; rfl
theorem hexV_hexs (d : List UInt8) : hexV (hexsL d) = (d, true) := by unfold hexV; rw [hexP_hexs]; rfl
theorem hexs_hexV {p : List UInt8} (h : (hexV p).2 = true) : p = hexsL (hexV p).1 := by
  unfold hexV at h ⊢
  cases hq : hexP p with
  | none => rw [hq] at h; cases h
  | some d => exact hexs_hexP p d hq
/-- An address's bytes, the high one first. -/
def ta (u : Nat) : List UInt8 := [UInt8.ofNat (u / 16777216), UInt8.ofNat (u / 65536 % 256), UInt8.ofNat (u / 256 % 256), UInt8.ofNat (u % 256)]
theorem toNat_of {n : Nat} (h : n < 256) : (UInt8.ofNat n).toNat = n := by rw [UInt8.toNat_ofNat', Nat.mod_eq_of_lt (by omega)]
theorem be4_ta {u : Nat} (h : u < 4294967296) : be4 (ta u) = u := by
  unfold be4 ta
  simp only [List.getD_cons_zero, List.getD_cons_succ]
  rw [toNat_of (by omega), toNat_of (by omega), toNat_of (by omega), toNat_of (by omega)]
  omega
theorem be4_lt (l : List UInt8) : be4 l < 4294967296 := by
  unfold be4
  have h0 := (l.getD 0 0).toNat_lt
  have h1 := (l.getD 1 0).toNat_lt
  have h2 := (l.getD 2 0).toNat_lt
  have h3 := (l.getD 3 0).toNat_lt
  omega
theorem ta_be4 : ∀ {l : List UInt8}, l.length = 4 → ta (be4 l) = l
  | [a, b, c, d], _ => by
    have h0 := a.toNat_lt
    have h1 := b.toNat_lt
    have h2 := c.toNat_lt
    have h3 := d.toNat_lt
    unfold ta be4
    simp only [List.getD_cons_zero, List.getD_cons_succ]
    rw [show (16777216 * a.toNat + 65536 * b.toNat + 256 * c.toNat + d.toNat) / 16777216 = a.toNat by omega, show (16777216 * a.toNat + 65536 * b.toNat + 256 * c.toNat + d.toNat) / 65536 % 256 = b.toNat by omega, show (16777216 * a.toNat + 65536 * b.toNat + 256 * c.toNat + d.toNat) / 256 % 256 = c.toNat by omega, show (16777216 * a.toNat + 65536 * b.toNat + 256 * c.toNat + d.toNat) % 256 = d.toNat by omega]
    simp only [UInt8.ofNat_toNat]
theorem hexL_ta {u : Nat} (h : u < 4294967296) : hexL u = hexsL (ta u) := by
  have e : hexL u = [hd (u / 268435456 % 16), hd (u / 16777216 % 16), hd (u / 1048576 % 16), hd (u / 65536 % 16), hd (u / 4096 % 16), hd (u / 256 % 16), hd (u / 16 % 16), hd (u / 1 % 16)] := rfl
  have e2 : hexsL (ta u) = [hd ((UInt8.ofNat (u / 16777216)).toNat / 16), hd ((UInt8.ofNat (u / 16777216)).toNat % 16), hd ((UInt8.ofNat (u / 65536 % 256)).toNat / 16), hd ((UInt8.ofNat (u / 65536 % 256)).toNat % 16), hd ((UInt8.ofNat (u / 256 % 256)).toNat / 16), hd ((UInt8.ofNat (u / 256 % 256)).toNat % 16), hd ((UInt8.ofNat (u % 256)).toNat / 16), hd ((UInt8.ofNat (u % 256)).toNat % 16)] := rfl
  rw [e, e2, toNat_of (show u / 16777216 < 256 by omega), toNat_of (show u / 65536 % 256 < 256 by omega), toNat_of (show u / 256 % 256 < 256 by omega), toNat_of (show u % 256 < 256 by omega)]
  rw [show u / 268435456 % 16 = u / 16777216 / 16 by omega, show u / 1048576 % 16 = u / 65536 % 256 / 16 by omega, show u / 65536 % 256 % 16 = u / 65536 % 16 by omega, show u / 4096 % 16 = u / 256 % 256 / 16 by omega, show u / 256 % 256 % 16 = u / 256 % 16 by omega, show u / 16 % 16 = u % 256 / 16 by omega, show u / 1 % 16 = u % 256 % 16 by omega]
theorem two_one {s : Nat} (h : s < 256) : twoL s = hexsL [UInt8.ofNat s] := by
  show twoL s = twoL (UInt8.ofNat s).toNat ++ []
  rw [toNat_of h, List.append_nil]
/-- The parts of a line. -/
def cutL : List UInt8 → List (List UInt8)
  | [] => [[]]
  | c :: r => if c = 32 then [] :: cutL r else match cutL r with
    | [] => [[c]]
    | p :: ps => (c :: p) :: ps
def splitLs : Nat → List UInt8 → List (List UInt8)
  | 0, s => [s]
  | k + 1, s => if Lib.index s [32] == -1 then [s] else s.take (Lib.index s [32]).toNat :: splitLs k (s.drop ((Lib.index s [32]).toNat + 1))
theorem bs_ext (l : List UInt8) (i j : Nat) : ((bs l).extract i j).data.toList = (l.drop i).take (j - i) := by
  rw [ByteArray.data_extract]
  simp [bs, Array.toList_extract, List.extract]
theorem splitB_ls : ∀ (k : Nat) (s : List UInt8), (Lib.splitB ⟨#[32]⟩ 0 k (bs s)).map (·.data.toList) = splitLs k s
  | 0, s => rfl
  | k + 1, s => by
    have e : Lib.indexB (bs s) ⟨#[32]⟩ = Lib.index s [32] := rfl
    rw [Lib.splitB, splitLs, e]
    split
    · rfl
    · rw [List.map_cons]
      have h1 : ((bs s).extract 0 ((Lib.index s [32]).toNat + 0)).data.toList = s.take (Lib.index s [32]).toNat := by rw [bs_ext]; simp
      have h2 : (bs s).extract ((Lib.index s [32]).toNat + 1) (bs s).size = bs (s.drop ((Lib.index s [32]).toNat + 1)) := by
        apply ByteArray.ext
        apply Array.ext'
        rw [bs_ext, bs_size]
        show List.take (s.length - ((Lib.index s [32]).toNat + 1)) (s.drop _) = _
        rw [List.take_of_length_le (by rw [List.length_drop]; exact Nat.le_refl _)]
        simp [bs]
      have h3 : (⟨#[32]⟩ : ByteArray).size = 1 := rfl
      rw [h1, h3, h2, splitB_ls k]
theorem splitLs_cut : ∀ (s : List UInt8), splitLs (Lib.count s [32]) s = cutL s
  | [] => by
    have : Lib.count [] [32] = 0 := Lib.count_miss rfl
    rw [this]; rfl
  | b :: l => by
    have ih := splitLs_cut l
    by_cases hb : b = 32
    · subst hb
      have hix : Lib.index ((32 : UInt8) :: l) [32] = 0 := by rw [Lib.index]; simp [List.isPrefixOf]
      rw [Lib.count_cons_eq, Nat.add_comm, splitLs, hix, cutL, if_pos rfl]
      simp only [Int.toNat_zero, List.take_zero, Nat.zero_add, List.drop_succ_cons, List.drop_zero, ih]
      rfl
    · have hp : ([32] : List UInt8).isPrefixOf (b :: l) = false := by simp [List.isPrefixOf, Ne.symm hb]
      have hix : Lib.index (b :: l) [32] = if Lib.index l [32] == -1 then -1 else Lib.index l [32] + 1 := by rw [Lib.index, hp]; simp
      rw [Lib.count_cons_ne b 32 l hb, cutL, if_neg hb, ← ih]
      cases hk : Lib.count l [32] with
      | zero => rfl
      | succ k =>
        have hm : ¬ Lib.index l [32] = -1 := fun h => by rw [Lib.count_miss h] at hk; cases hk
        have hge := Lib.index_ge l [32]
        obtain ⟨j, hj⟩ : ∃ j : Nat, Lib.index l [32] = j := ⟨(Lib.index l [32]).toNat, by omega⟩
        have hne : (Lib.index l [32] == -1) = false := beq_eq_false_iff_ne.2 hm
        rw [splitLs, splitLs, hix, hne]
        simp only [Bool.false_eq_true, if_false]
        rw [hj, if_neg (by rw [beq_iff_eq]; omega), show ((j : Int) + 1).toNat = j + 1 by omega, Int.toNat_natCast]
        rfl
theorem split_cut (l : List UInt8) : splitL l = cutL l := by
  unfold splitL
  rw [splitB_ls]
  exact splitLs_cut l
theorem cut_ne (l : List UInt8) : cutL l ≠ [] := by
  cases l with
  | nil => simp [cutL]
  | cons c r =>
    rw [cutL]
    split
    · simp
    · split <;> simp
theorem cut_free : ∀ (p : List UInt8), (∀ c ∈ p, c ≠ 32) → cutL p = [p]
  | [], _ => rfl
  | c :: r, h => by
    rw [cutL, if_neg (h c (by simp)), cut_free r (fun c hc => h c (by simp [hc]))]
theorem cut_more : ∀ (p r : List UInt8), (∀ c ∈ p, c ≠ 32) → cutL (p ++ 32 :: r) = p :: cutL r
  | [], r, _ => by rw [List.nil_append, cutL, if_pos rfl]
  | c :: p, r, h => by
    rw [List.cons_append, cutL, if_neg (h c (by simp)), cut_more p r (fun c hc => h c (by simp [hc]))]
theorem cut_back : ∀ (l p : List UInt8) (ps : List (List UInt8)), cutL l = p :: ps → (ps = [] ∧ l = p) ∨ ∃ r, l = p ++ 32 :: r ∧ cutL r = ps
  | [], p, ps, h => by
    rw [cutL] at h
    injection h with h1 h2
    subst h1; subst h2
    exact .inl ⟨rfl, rfl⟩
  | c :: r, p, ps, h => by
    rw [cutL] at h
    split at h
    · rename_i hc
      injection h with h1 h2
      subst h1; subst hc
      exact .inr ⟨r, rfl, h2⟩
    · rename_i hc
      split at h
      · rename_i hn
        exact absurd hn (cut_ne r)
      · rename_i q qs hq
        injection h with h1 h2
        subst h1; subst h2
        rcases cut_back r q qs hq with ⟨e1, e2⟩ | ⟨r', e1, e2⟩
        · exact .inl ⟨e1, by rw [e2]⟩
        · exact .inr ⟨r', by rw [e1]; rfl, e2⟩
/-- A line as it is written. -/
def fmtL (r : RowV) : List UInt8 := if r.kind = 3 then startW ++ 32 :: (hexL r.at_ ++ 32 :: twoL r.sum) else kindW r.kind ++ 32 :: (hexL r.at_ ++ 32 :: (hexsL r.b ++ 32 :: twoL r.sum))
/-- A line that may be. -/
def RowOk (r : RowV) : Prop := ((r.kind = 1 ∨ r.kind = 2) ∧ 1 ≤ r.b.length ∧ r.b.length ≤ 16 ∨ r.kind = 3 ∧ r.b = []) ∧ r.at_ < 4294967296 ∧ r.sum < 256
theorem hexs_free (d : List UInt8) : ∀ c ∈ hexsL d, c ≠ 32 := by
  intro c hc
  unfold hexsL at hc
  obtain ⟨a, _, ha⟩ := List.mem_flatMap.1 hc
  have := a.toNat_lt
  simp only [twoL, List.mem_cons, List.mem_nil_iff, or_false] at ha
  rcases ha with rfl | rfl
  · exact (hd_ne (by omega)).1
  · exact (hd_ne (by omega)).1
theorem kind_free (k : Nat) : ∀ c ∈ kindW k, c ≠ 32 := by
  unfold kindW segW andW startW
  split <;> decide
theorem rowP_seg (a b c : List UInt8) : rowP [segW, a, b, c] = rowK 1 (hexV a) (hexV c) (some (hexV b)) := by simp [rowP]
theorem rowP_and (a b c : List UInt8) : rowP [andW, a, b, c] = rowK 2 (hexV a) (hexV c) (some (hexV b)) := by simp [rowP, show andW ≠ segW by decide]
theorem rowP_start (a b : List UInt8) : rowP [startW, a, b] = rowK 3 (hexV a) (hexV b) none := by simp [rowP]
theorem row_fmt {r : RowV} (h : RowOk r) : rowV (fmtL r) = r := by
  obtain ⟨k, u, d, s⟩ := r
  obtain ⟨h1, h2, h3⟩ := h
  simp only at h1 h2 h3
  have hs : (UInt8.ofNat s).toNat = s := toNat_of h3
  unfold rowV
  rw [split_cut]
  unfold fmtL
  simp only
  rcases h1 with ⟨hk, d1, d2⟩ | ⟨rfl, rfl⟩
  · rw [if_neg (by omega), hexL_ta h2, two_one h3, cut_more _ _ (kind_free k), cut_more _ _ (hexs_free _), cut_more _ _ (hexs_free _), cut_free _ (hexs_free _)]
    rcases hk with rfl | rfl
    · show rowP [segW, _, _, _] = _
      rw [rowP_seg, hexV_hexs, hexV_hexs, hexV_hexs]
      unfold rowK
      rw [if_pos ⟨rfl, rfl, rfl, rfl⟩]
      simp only
      rw [if_pos ⟨trivial, d1, d2⟩, be4_ta h2]
      simp [hs]
    · show rowP [andW, _, _, _] = _
      rw [rowP_and, hexV_hexs, hexV_hexs, hexV_hexs]
      unfold rowK
      rw [if_pos ⟨rfl, rfl, rfl, rfl⟩]
      simp only
      rw [if_pos ⟨trivial, d1, d2⟩, be4_ta h2]
      simp [hs]
  · rw [if_pos rfl, hexL_ta h2, two_one h3, cut_more startW _ (by decide), cut_more _ _ (hexs_free _), cut_free _ (hexs_free _), rowP_start]
    rw [hexV_hexs, hexV_hexs]
    unfold rowK
    rw [if_pos ⟨rfl, rfl, rfl, rfl⟩]
    simp only
    rw [be4_ta h2]
    simp [hs]
theorem rowK_some {k : Nat} {p1 pz p2 : List UInt8} (h : (rowK k (hexV p1) (hexV pz) (some (hexV p2))).kind ≠ 0) : ∃ u d s, rowK k (hexV p1) (hexV pz) (some (hexV p2)) = ⟨k, u, d, s⟩ ∧ u < 4294967296 ∧ s < 256 ∧ 1 ≤ d.length ∧ d.length ≤ 16 ∧ p1 = hexL u ∧ p2 = hexsL d ∧ pz = twoL s := by
  unfold rowK at h ⊢
  split at h
  · rename_i q
    obtain ⟨q1, q2, q3, q4⟩ := q
    simp only at h
    split at h
    · rename_i g
      obtain ⟨g1, g2, g3⟩ := g
      rw [if_pos ⟨q1, q2, q3, q4⟩]
      simp only
      rw [if_pos ⟨g1, g2, g3⟩]
      obtain ⟨z, hz⟩ : ∃ z, (hexV pz).1 = [z] := by
        match hh : (hexV pz).1, q4 with
        | [z], _ => exact ⟨z, rfl⟩
      refine ⟨_, _, _, rfl, be4_lt _, UInt8.toNat_lt _, g2, g3, ?_, hexs_hexV g1, ?_⟩
      · rw [hexL_ta (be4_lt _), ta_be4 q3]; exact hexs_hexV q1
      · rw [two_one (UInt8.toNat_lt _), UInt8.ofNat_toNat]
        have := hexs_hexV q2
        rw [hz] at this ⊢
        exact this
    · exact absurd rfl h
  · exact absurd rfl h
theorem rowK_none {p1 pz : List UInt8} (h : (rowK 3 (hexV p1) (hexV pz) none).kind ≠ 0) : ∃ u s, rowK 3 (hexV p1) (hexV pz) none = ⟨3, u, [], s⟩ ∧ u < 4294967296 ∧ s < 256 ∧ p1 = hexL u ∧ pz = twoL s := by
  unfold rowK at h ⊢
  split at h
  · rename_i q
    obtain ⟨q1, q2, q3, q4⟩ := q
    rw [if_pos ⟨q1, q2, q3, q4⟩]
    simp only
    obtain ⟨z, hz⟩ : ∃ z, (hexV pz).1 = [z] := by
      match hh : (hexV pz).1, q4 with
      | [z], _ => exact ⟨z, rfl⟩
    refine ⟨_, _, rfl, be4_lt _, UInt8.toNat_lt _, ?_, ?_⟩
    · rw [hexL_ta (be4_lt _), ta_be4 q3]; exact hexs_hexV q1
    · rw [two_one (UInt8.toNat_lt _), UInt8.ofNat_toNat]
      have := hexs_hexV q2
      rw [hz] at this ⊢
      exact this
  · exact absurd rfl h
theorem cut4 {l p0 p1 p2 p3 : List UInt8} (h : cutL l = [p0, p1, p2, p3]) : l = p0 ++ 32 :: (p1 ++ 32 :: (p2 ++ 32 :: p3)) := by
  rcases cut_back _ _ _ h with ⟨e, _⟩ | ⟨r, e, h⟩
  · cases e
  rcases cut_back _ _ _ h with ⟨e2, _⟩ | ⟨r2, e2, h⟩
  · cases e2
  rcases cut_back _ _ _ h with ⟨e3, _⟩ | ⟨r3, e3, h⟩
  · cases e3
  rcases cut_back _ _ _ h with ⟨_, e4⟩ | ⟨r4, e4, h⟩
  · rw [e, e2, e3, e4]
  · exact absurd h (cut_ne _)
theorem cut3 {l p0 p1 p2 : List UInt8} (h : cutL l = [p0, p1, p2]) : l = p0 ++ 32 :: (p1 ++ 32 :: p2) := by
  rcases cut_back _ _ _ h with ⟨e, _⟩ | ⟨r, e, h⟩
  · cases e
  rcases cut_back _ _ _ h with ⟨e2, _⟩ | ⟨r2, e2, h⟩
  · cases e2
  rcases cut_back _ _ _ h with ⟨_, e3⟩ | ⟨r3, e3, h⟩
  · rw [e, e2, e3]
  · exact absurd h (cut_ne _)
theorem fmt_row {l : List UInt8} (h : (rowV l).kind ≠ 0) : RowOk (rowV l) ∧ l = fmtL (rowV l) := by
  unfold rowV at h ⊢
  rw [split_cut] at h ⊢
  match hc : cutL l with
  | [p0, p1, p2] =>
    rw [hc] at h
    have hl := cut3 hc
    by_cases q : p0 = startW
    · have e : rowP [p0, p1, p2] = rowK 3 (hexV p1) (hexV p2) none := by show (if p0 = startW then _ else _) = _; rw [if_pos q]
      rw [e] at h ⊢
      obtain ⟨u, s, e1, u1, s1, e2, e3⟩ := rowK_none h
      rw [e1]
      refine ⟨⟨.inr ⟨rfl, rfl⟩, u1, s1⟩, ?_⟩
      rw [hl, q, e2, e3]; rfl
    · have e : rowP [p0, p1, p2] = rowZ := by show (if p0 = startW then _ else _) = _; rw [if_neg q]
      rw [e] at h; exact absurd rfl h
  | [p0, p1, p2, p3] =>
    rw [hc] at h
    have hl := cut4 hc
    by_cases q : p0 = segW
    · have e : rowP [p0, p1, p2, p3] = rowK 1 (hexV p1) (hexV p3) (some (hexV p2)) := by show (if p0 = segW then _ else _) = _; rw [if_pos q]
      rw [e] at h ⊢
      obtain ⟨u, d, s, e1, u1, s1, d1, d2, e2, e3, e4⟩ := rowK_some h
      rw [e1]
      refine ⟨⟨.inl ⟨.inl rfl, d1, d2⟩, u1, s1⟩, ?_⟩
      rw [hl, q, e2, e3, e4]; rfl
    · by_cases q2 : p0 = andW
      · have e : rowP [p0, p1, p2, p3] = rowK 2 (hexV p1) (hexV p3) (some (hexV p2)) := by show (if p0 = segW then _ else if p0 = andW then _ else _) = _; rw [if_neg q, if_pos q2]
        rw [e] at h ⊢
        obtain ⟨u, d, s, e1, u1, s1, d1, d2, e2, e3, e4⟩ := rowK_some h
        rw [e1]
        refine ⟨⟨.inl ⟨.inr rfl, d1, d2⟩, u1, s1⟩, ?_⟩
        rw [hl, q2, e2, e3, e4]; rfl
      · have e : rowP [p0, p1, p2, p3] = rowZ := by show (if p0 = segW then _ else if p0 = andW then _ else _) = _; rw [if_neg q, if_neg q2]
        rw [e] at h; exact absurd rfl h
  | [] => rw [hc] at h; exact absurd rfl h
  | [_] => rw [hc] at h; exact absurd rfl h
  | [_, _] => rw [hc] at h; exact absurd rfl h
  | _ :: _ :: _ :: _ :: _ :: _ => rw [hc] at h; exact absurd rfl h
theorem rowK_zero (k : Nat) (a z : List UInt8 × Bool) (d : Option (List UInt8 × Bool)) (hk : k ≠ 0) (h : (rowK k a z d).kind = 0) : rowK k a z d = rowZ := by
  unfold rowK at h ⊢
  split at h
  · rename_i q
    rw [if_pos q]
    cases d with
    | none => exact absurd h hk
    | some d =>
      simp only at h ⊢
      split at h
      · exact absurd h hk
      · rename_i g; rw [if_neg g]
  · rename_i q; rw [if_neg q]
theorem row_zero {l : List UInt8} (h : (rowV l).kind = 0) : rowV l = rowZ := by
  unfold rowV rowP at h ⊢
  split at h
  · split at h
    · rename_i q; rw [if_pos q]; exact rowK_zero 3 _ _ _ (by decide) h
    · rename_i q; rw [if_neg q]
  · split at h
    · rename_i q; rw [if_pos q]; exact rowK_zero 1 _ _ _ (by decide) h
    · rename_i q; rw [if_neg q]
      split at h
      · rename_i q2; rw [if_pos q2]; exact rowK_zero 2 _ _ _ (by decide) h
      · rename_i q2; rw [if_neg q2]
  · rfl
end Go.Proofs.YtnigkecpiolgeaaDoor.My
/- Walk: a line read: the program's, whole. -/
set_option linter.unusedVariables false
set_option linter.unusedSimpArgs false
namespace Go.Proofs.YtnigkecpiolgeaaDoor.My
open Go.RowKit
theorem parse_any (l : List UInt8) (m : Int) (w : World) (hM : w.cell? ⟨0, 0, none⟩ = some (.int .i64 m)) (hl : l.length ≤ 1000000) : Calls Tryd.prog 32 #[.string (bs l)] w fun e w' => ParseIs (rowV l) w e w' ∧ Below w.heap.size w w' := by
  obtain ⟨ps, hps⟩ : ∃ ps, splitL l = ps := ⟨_, rfl⟩
  have hr : rowV l = rowP ps := by unfold rowV; rw [hps]
  match ps, hps, hr with
  | [], hps, _ => rw [split_cut] at hps; exact absurd hps (cut_ne l)
  | p0 :: r, hps, hr =>
    by_cases h1 : p0 = startW
    · subst h1
      by_cases hn : (startW :: r).length = 3
      · match r, hn with
        | [p1, pz], _ => exact parse_start l p1 pz m w hM hl hps
      · refine parse_len_start l _ m w hM hl hps rfl ?_ hn
        rw [hr]
        match r, hn with
        | [], _ => rfl
        | [_], _ => rfl
        | [_, _], hn => exact absurd rfl hn
        | [_, _, _], _ => simp [rowP, show startW ≠ segW by decide, show startW ≠ andW by decide]
        | _ :: _ :: _ :: _ :: _, _ => rfl
    by_cases h2 : p0 = segW
    · subst h2
      by_cases hn : (segW :: r).length = 4
      · match r, hn with
        | [p1, p2, pz], _ => exact parse_seg l p1 p2 pz m w hM hl hps
      · refine parse_len_seg l _ m w hM hl hps rfl ?_ hn
        rw [hr]
        match r, hn with
        | [], _ => rfl
        | [_], _ => rfl
        | [_, _], _ => simp [rowP, show segW ≠ startW by decide]
        | [_, _, _], hn => exact absurd rfl hn
        | _ :: _ :: _ :: _ :: _, _ => rfl
    by_cases h3 : p0 = andW
    · subst h3
      by_cases hn : (andW :: r).length = 4
      · match r, hn with
        | [p1, p2, pz], _ => exact parse_and l p1 p2 pz m w hM hl hps
      · refine parse_len_and l _ m w hM hl hps rfl ?_ hn
        rw [hr]
        match r, hn with
        | [], _ => rfl
        | [_], _ => rfl
        | [_, _], _ => simp [rowP, show andW ≠ startW by decide]
        | [_, _, _], hn => exact absurd rfl hn
        | _ :: _ :: _ :: _ :: _, _ => rfl
    refine parse_else l p0 _ m w hM hl hps rfl ?_ h1 h2 h3
    rw [hr]
    match r with
    | [] => rfl
    | [_] => rfl
    | [_, _] => simp [rowP, h1]
    | [_, _, _] => simp [rowP, h2, h3]
    | _ :: _ :: _ :: _ :: _ => rfl
end Go.Proofs.YtnigkecpiolgeaaDoor.My
/- Words: an image that the call makes: its segments' row, and each segment's bytes apart from one another. -/
set_option linter.unusedVariables false
set_option linter.unusedSimpArgs false
namespace Go.Proofs.YtnigkecpiolgeaaDoor.My
open Go.RowKit
def dV (m : SegM) : Value := .slice m.D m.d.length m.c
theorem own_type {w : World} {B e k n : Nat} {v : Value} {xs : List Value} (h : w.ownsRow B e k v n xs) {j : Nat} (hj : v.ownBlock = some j) : B ≤ j ∧ ∃ cs, w.heap[j]? = some (.cells cs e (0, 0)) := by
  rcases h.2 with ⟨rfl, _⟩ | ⟨g, cap, cur, rfl, h2, h3, _⟩
  · cases hj
  · simp only [Value.ownBlock, Option.some.injEq] at hj
    subst hj
    exact ⟨h2, cur, h3⟩
theorem own_lt {w : World} {B e k n : Nat} {v : Value} {xs : List Value} (h : w.ownsRow B e k v n xs) {j : Nat} (hj : v.ownBlock = some j) : j < w.heap.size := by
  obtain ⟨_, cs, h2⟩ := own_type h hj
  exact (Array.getElem?_eq_some_iff.1 h2).1
theorem own_same {w w' : World} {B e k n : Nat} {v : Value} {xs : List Value} (h : w.ownsRow B e k v n xs) (hk : ∀ j, v.ownBlock = some j → w'.heap[j]? = w.heap[j]?) : w'.ownsRow B e k v n xs := by
  refine ⟨h.1, ?_⟩
  rcases h.2 with h | ⟨g, cap, cur, rfl, h2, h3, h4⟩
  · exact .inl h
  · exact .inr ⟨g, cap, cur, rfl, h2, (hk g rfl).trans h3, h4⟩
theorem own_cap {w : World} {B e k n m c : Nat} {A : Option Addr} {xs : List Value} (h : w.ownsRow B e k (.slice A m c) n xs) : m = n ∧ n ≤ c ∧ (A = none → n = 0 ∧ c = 0) := by
  rcases h.2 with ⟨he, h0⟩ | ⟨g, cap, cur, he, _, _, hc, _⟩
  · injection he with e1 e2 e3
    subst e1 e2 e3
    exact ⟨h0.symm, by omega, fun _ => ⟨h0, rfl⟩⟩
  · injection he with e1 e2 e3
    subst e1 e2 e3
    exact ⟨rfl, hc, fun h => by cases h⟩
structure SegsAt (w : World) (B : Nat) (v : Value) (ms : List SegM) : Prop where
  row : w.ownsRow B 51 2 v ms.length ((ms.map sA).flatMap Array.toList)
  inn : ∀ m ∈ ms, OwnB w B (dV m) m.d
  ap : ms.Pairwise fun a b => ∀ k, (dV a).ownBlock = some k → (dV b).ownBlock ≠ some k
  sm : ∀ m ∈ ms, m.at_ + m.d.length ≤ 16384
theorem sg_u8 : (51 : Nat) ≠ 5 := by decide
theorem SegsAt.nil (w : World) (B : Nat) : SegsAt w B (.slice none 0 0) [] := ⟨⟨rfl, .inl ⟨rfl, rfl⟩⟩, (fun m hm => by cases hm), List.Pairwise.nil, (fun m hm => by cases hm)⟩
theorem SegsAt.same {w w' : World} {B : Nat} {v : Value} {ms : List SegM} (h : SegsAt w B v ms) (hk : ∀ (j : Nat) (cs : Array Value) (t : TypeId), w.heap[j]? = some (.cells cs t (0, 0)) → (t = 51 ∨ t = 5) → w'.heap[j]? = w.heap[j]?) : SegsAt w' B v ms :=
  ⟨own_same h.row fun j hj => by obtain ⟨_, cs, h2⟩ := own_type h.row hj; exact hk j cs _ h2 (.inl rfl),
   fun m hm => own_same (h.inn m hm) fun j hj => by obtain ⟨_, cs, h2⟩ := own_type (h.inn m hm) hj; exact hk j cs _ h2 (.inr rfl), h.ap, h.sm⟩
theorem SegsAt.below {w w' : World} {B : Nat} {v : Value} {ms : List SegM} (h : SegsAt w B v ms) (hb : Below w.heap.size w w') : SegsAt w' B v ms :=
  h.same fun j cs t hj _ => hb.block j (Array.getElem?_eq_some_iff.1 hj).1
theorem SegsAt.only {w w' : World} {B g : Nat} {v : Value} {ms : List SegM} (h : SegsAt w B v ms) (ho : Only g w w') {cs : Array Value} {t : TypeId} {fr : Nat × Nat} (hg : w.heap[g]? = some (.cells cs t fr)) (h1 : t ≠ 51) (h2 : t ≠ 5) : SegsAt w' B v ms :=
  h.same fun j cs' t' hj ht => ho.block j fun e => by
    subst e
    rw [hg] at hj
    injection hj with hj
    injection hj with _ e _
    rcases ht with q | q
    · exact h1 (e.trans q)
    · exact h2 (e.trans q)
theorem SegsAt.drew {w : World} {B : Nat} {v : Value} {ms : List SegM} (h : SegsAt w B v ms) (n : Nat) : SegsAt (w.drewN n) B v ms := h.same fun _ _ _ _ _ => rfl
theorem SegsAt.rd {w : World} {B : Nat} {v : Value} {ms : List SegM} (h : SegsAt w B v ms) : ∃ A c, v = .slice A ms.length c ∧ RdSg w A ms := by
  obtain ⟨A, c, e, hr, _, _⟩ := RwA.of_own (by decide) (fun r hr => by obtain ⟨m, _, rfl⟩ := List.mem_map.1 hr; rfl) h.row
  refine ⟨A, c, e, hr, fun m hm => ?_⟩
  have h1 := h.inn m hm
  have h2 := h.sm m hm
  obtain ⟨A', c', e', hr', _⟩ := h1.rd
  injection e' with e1 e2 e3
  subst e1 e3
  exact ⟨by omega, by omega, (own_cap h1).2.1, hr'⟩
theorem SegsAt.last {w : World} {B : Nat} {v : Value} {ms : List SegM} {m : SegM} (h : SegsAt w B v (ms ++ [m])) : ∃ g cap cur, v = .slice (some ⟨g, 0, none⟩) (ms.length + 1) cap ∧ B ≤ g ∧ w.heap[g]? = some (.cells cur 51 (0, 0)) ∧ cur[2 * ms.length]? = some (.int .u32 m.at_) ∧ cur[2 * ms.length + 1]? = some (dV m) := by
  have hl : ∀ l : List SegM, ((l.map sA).flatMap Array.toList).length = 2 * l.length := by
    intro l
    induction l with
    | nil => rfl
    | cons a l ih => rw [List.map_cons, List.flatMap_cons, List.length_append, ih, List.length_cons]; show 2 + _ = _; omega
  rcases h.row.2 with ⟨_, h0⟩ | ⟨g, cap, cur, rfl, h2, h3, _, _, hsz, htk⟩
  · rw [List.length_append] at h0; simp at h0
  · have key : ∀ j, j < 2 → cur[2 * ms.length + j]? = (sA m)[j]? := by
      intro j hj
      have : (cur.toList.take ((ms ++ [m]).length * 2))[2 * ms.length + j]? = cur.toList[2 * ms.length + j]? := List.getElem?_take_of_lt (by rw [List.length_append]; simp; omega)
      rw [← Array.getElem?_toList, ← this, htk, List.map_append, List.flatMap_append, List.getElem?_append_right (by rw [hl]; omega), hl]
      simp only [List.map_cons, List.map_nil, List.flatMap_cons, List.flatMap_nil, List.append_nil]
      rw [show 2 * ms.length + j - 2 * ms.length = j by omega, Array.getElem?_toList]
    refine ⟨g, cap, cur, by rw [List.length_append]; rfl, h2, h3, ?_, ?_⟩
    · have := key 0 (by decide); rw [Nat.add_zero] at this; rw [this]; rfl
    · exact key 1 (by decide)
/-- One segment more. -/
theorem SegsAt.push {w w2 : World} {B : Nat} {v v' : Value} {ms : List SegM} {m : SegM} (h : SegsAt w B v ms) (hm : OwnB w B (dV m) m.d) (hs : m.at_ + m.d.length ≤ 16384) (hap : ∀ a ∈ ms, ∀ k, (dV a).ownBlock = some k → (dV m).ownBlock ≠ some k)
    (hrow : w2.ownsRow B 51 2 v' (ms.length + 1) ((ms.map sA).flatMap Array.toList ++ (sA m).toList)) (hg : w.grownBy w2 v.ownBlock) : SegsAt w2 B v' (ms ++ [m]) := by
  have keep : ∀ a, OwnB w B (dV a) a.d → OwnB w2 B (dV a) a.d := fun a ha => own_same ha fun j hj => by
    obtain ⟨_, cs, h2⟩ := own_type ha hj
    refine hg.block j (own_lt ha hj) fun e => ?_
    obtain ⟨_, cs', h3⟩ := own_type h.row e.symm
    rw [h2] at h3
    injection h3 with h3
    injection h3 with _ e _
    exact sg_u8 e.symm
  refine ⟨?_, ?_, ?_, ?_⟩
  · rw [List.length_append, List.map_append, List.flatMap_append]
    simpa using hrow
  · intro a ha
    rcases List.mem_append.1 ha with ha | ha
    · exact keep a (h.inn a ha)
    · obtain rfl : a = m := by simpa using ha
      exact keep a hm
  · rw [List.pairwise_append]
    refine ⟨h.ap, List.pairwise_singleton _ _, fun a ha b hb => ?_⟩
    obtain rfl : b = m := by simpa using hb
    exact hap a ha
  · intro a ha
    rcases List.mem_append.1 ha with ha | ha
    · exact h.sm a ha
    · obtain rfl : a = m := by simpa using ha
      exact hs
/-- The last segment's bytes, and more. -/
theorem SegsAt.grow {w w1 w2 : World} {B g cap : Nat} {ms : List SegM} {m m' : SegM} {cur : Array Value} (h : SegsAt w B (.slice (some ⟨g, 0, none⟩) (ms.length + 1) cap) (ms ++ [m])) (hcur : w.heap[g]? = some (.cells cur 51 (0, 0)))
    (hgr : w.grownBy w1 (dV m).ownBlock) (hown : OwnB w1 B (dV m') m'.d) (hat : m'.at_ = m.at_) (hs : m'.at_ + m'.d.length ≤ 16384) (hblk : (dV m').ownBlock = (dV m).ownBlock ∨ (dV m').ownBlock = some w.heap.size)
    (h2 : w2.heap[g]? = some (.cells (cur.setIfInBounds (2 * ms.length + 1) (dV m')) 51 (0, 0))) (ho : Only g w1 w2) : SegsAt w2 B (.slice (some ⟨g, 0, none⟩) (ms.length + 1) cap) (ms ++ [m']) := by
  have hl : ∀ l : List SegM, ((l.map sA).flatMap Array.toList).length = 2 * l.length := by
    intro l
    induction l with
    | nil => rfl
    | cons a l ih => rw [List.map_cons, List.flatMap_cons, List.length_append, ih, List.length_cons]; show 2 + _ = _; omega
  have hmm := h.inn m (by simp)
  have hgm : ∀ a B', OwnB w B' (dV a) a.d → ∀ j, (dV a).ownBlock = some j → j ≠ g := fun a B' ha j hj e => by
    obtain ⟨_, cs, h3⟩ := own_type ha hj
    subst e
    rw [hcur] at h3
    injection h3 with h3
    injection h3 with _ e _
    exact sg_u8 e
  have hg1 : ∀ j, (dV m').ownBlock = some j → j ≠ g := fun j hj e => by
    rcases hblk with q | q
    · exact hgm m B hmm j (q ▸ hj) e
    · rw [hj] at q
      injection q with q
      have := (Array.getElem?_eq_some_iff.1 hcur).1
      omega
  refine ⟨?_, ?_, ?_, ?_⟩
  · obtain ⟨h1, h3⟩ := h.row
    rcases h3 with ⟨h3, _⟩ | ⟨g', cap', cur', he, hB, hh, hc, hx, hsz, htk⟩
    · injection h3 with h3; cases h3
    · injection he with e1 e2 e3
      injection e1 with e1
      injection e1 with e1
      subst e1 e3
      rw [hcur] at hh
      injection hh with hh
      injection hh with hh _ _
      subst hh
      refine ⟨by rw [flat_len (k := 2) (by intro r hr; obtain ⟨q, _, rfl⟩ := List.mem_map.1 hr; rfl)]; simp, .inr ⟨g, cap, _, by rw [List.length_append]; rfl, hB, h2, by rw [List.length_append] at hc ⊢; exact hc, hx, by rw [Array.size_setIfInBounds]; exact hsz, ?_⟩⟩
      rw [Array.toList_setIfInBounds, List.take_set]
      rw [List.length_append] at htk ⊢
      simp only [List.length_cons, List.length_nil] at htk ⊢
      rw [htk, List.map_append, List.flatMap_append, List.map_append, List.flatMap_append, List.set_append_right _ _ (by rw [hl]; omega), hl, show 2 * ms.length + 1 - 2 * ms.length = 1 by omega]
      congr 1
      simp only [List.map_cons, List.map_nil, List.flatMap_cons, List.flatMap_nil, List.append_nil, sA, hat]
      rfl
  · intro a ha
    rcases List.mem_append.1 ha with ha | ha
    · have haa := h.inn a (by simp [ha])
      refine own_same haa fun j hj => ?_
      have e1 := hgr.block j (own_lt haa hj) (fun e => by
        have := (List.pairwise_append.1 h.ap).2.2 a ha m (by simp) j hj
        exact this e.symm)
      rw [ho.block j (hgm a B haa j hj), e1]
    · obtain rfl : a = m' := by simpa using ha
      exact own_same hown fun j hj => ho.block j (hg1 j hj)
  · obtain ⟨p1, _, p3⟩ := List.pairwise_append.1 h.ap
    rw [List.pairwise_append]
    refine ⟨p1, List.pairwise_singleton _ _, fun a ha b hb k hk hk2 => ?_⟩
    obtain rfl : b = m' := by simpa using hb
    rcases hblk with q | q
    · exact p3 a ha m (by simp) k hk (q ▸ hk2)
    · rw [hk2] at q
      injection q with q
      have := own_lt (h.inn a (by simp [ha])) hk
      omega
  · intro a ha
    rcases List.mem_append.1 ha with ha | ha
    · exact h.sm a (by simp [ha])
    · obtain rfl : a = m' := by simpa using ha
      exact hs
end Go.Proofs.YtnigkecpiolgeaaDoor.My
/- Words and walks: bytes appended to the call's own, in whatever order; the sum of an address and bytes of the call's own; may a line go on. -/
set_option linter.unusedVariables false
set_option linter.unusedSimpArgs false
namespace Go.Proofs.YtnigkecpiolgeaaDoor.My
open Go.RowKit
theorem infoSS : (Tryd.prog.info? 23).map (·.size) = some 1 := by kernel_rfl
theorem infoSeg3 : (Tryd.prog.info? 51).map (fun i => (i.zero, i.size, i.bytes)) = some (some (.agg #[.int .u32 0, .slice none 0 0]), 2, 32) := by kernel_rfl
theorem zeroIm (w : World) : (zeroValue 25).run Tryd.prog w = .ok (.agg (imA 0 none 0 0)) w := by kernel_rfl
theorem imA_one (st : Nat) (S : Option Addr) (n c : Nat) : (imA st S n c).all (·.oneCell') = true := by simp [imA, Value.oneCell']
section
variable {ops : Array Oper} {o : Oper} {a : Act} {w : World} {Q : Exit → Act → World → Prop} {rest : List Oper} {K : Act → World → Prop} {E : Prop} {S : World → Prop}
theorem src_own {A : Option Addr} {c : Nat} {r : List UInt8} {Bx : Nat} (h : OwnB w Bx (.slice A r.length c) r) (hA : A ≠ none) : ∃ ad, A = some ad ∧ ∀ j v, ((ints r).map (Value.int .u8))[j]? = some v → w.cell? (ad.add j) = some v := by
  cases A with
  | none => exact absurd rfl hA
  | some ad =>
    refine ⟨ad, rfl, fun j v hv => ?_⟩
    have hj : j < r.length := by
      rcases Nat.lt_or_ge j r.length with h | h
      · exact h
      · rw [List.getElem?_eq_none (by simp [ints]; omega)] at hv; cases hv
    obtain ⟨A', c', e, hr, _⟩ := h.rd
    injection e with e1 _ _
    subst e1
    obtain ⟨ad', h1, h2⟩ := hr.src (by simp [ints]; omega)
    injection h1 with h1
    subst h1
    exact h2 j v hv
/-- append(v, x...): both of bytes of the call's own. -/
theorem appBO (hgd : o.guard = none) (s x : Operand) (ho : o.op = .call { callee := .builtin .append, args := #[s, x], argTypes := #[26, 26] })
    (B : Nat) (v : Value) (l : List UInt8) (hs : a.eval s = v) (hown : OwnB w B v l) (A : Option Addr) (c : Nat) (r : List UInt8) (hx : a.eval x = .slice A r.length c) {Bx : Nat} (hr : OwnB w Bx (.slice A r.length c) r)
    (hm : l.length + r.length ≤ 100000000) (hB : B ≤ w.heap.size)
    (h : ∀ (v' : Value) (w2 : World), OwnB w2 B v' (l ++ r) → w.grownBy w2 v.ownBlock → (v'.ownBlock = v.ownBlock ∨ v'.ownBlock = some w.heap.size) → wpList Tryd.prog ops Q rest (a.put o.dst v') w2) : wpList Tryd.prog ops Q (o :: rest) a w := by
  obtain ⟨i0, hi, hzz⟩ := Option.map_eq_some_iff.1 infoB
  simp only [Prod.mk.injEq] at hzz
  obtain ⟨hz0, hz1, hz2⟩ := hzz
  by_cases hn : A = none
  · subst hn
    obtain ⟨_, _, h3⟩ := own_cap hr
    obtain ⟨h4, rfl⟩ := h3 rfl
    have hr0 : r = [] := List.eq_nil_of_length_eq_zero h4
    subst hr0
    refine wpList_append_own_none hgd s x 26 ho B 5 i0 1 Tryd.underlying26 hi v l.length _ hs hown hx ?_
    exact h v w (by rw [List.append_nil]; exact hown) ⟨rfl, rfl, rfl, Nat.le_refl _, fun _ _ _ => rfl⟩ (.inl rfl)
  · obtain ⟨ad, rfl, hsrc⟩ := src_own hr hn
    refine wpList_append_own_at w hgd s x 26 ho B 5 i0 (.int .u8 0) 1 1 Tryd.underlying26 hi hz0 hz1 hz2 rfl (by omega) v l.length _ hs hown ad r.length c ((ints r).map (Value.int .u8)) hx (by simp [ints_len]) hsrc (ones_ma _ _) (by unfold maxLen; omega) (by omega) hB ?_
    intro v' w2 h1 h2 _ h4
    refine h v' w2 ?_ h2 h4
    unfold OwnB
    rw [List.length_append, show ints (l ++ r) = ints l ++ ints r by simp [ints], List.map_append]
    exact h1
/-- .. in a region that draws its order. -/
theorem rgAppB (hw : Region.wanted o (yielded ops a.tmps) = true) (s x : Operand) (ho : o.op = .call { callee := .builtin .append, args := #[s, x], argTypes := #[26, 26] })
    (B : Nat) (v : Value) (l : List UInt8) (hs : a.eval s = v) (hown : OwnB w B v l) (A : Option Addr) (c : Nat) (r : List UInt8) (hx : a.eval x = .slice A r.length c) {Bx : Nat} (hr : OwnB w Bx (.slice A r.length c) r) (hA : A ≠ none)
    (hm : l.length + r.length ≤ 100000000) (hB : B ≤ w.heap.size)
    (h : ∀ (v' : Value) (w2 : World), OwnB w2 B v' (l ++ r) → w.grownBy w2 v.ownBlock → (v'.ownBlock = v.ownBlock ∨ v'.ownBlock = some w.heap.size) → K (a.put o.dst v') w2) : if Region.wanted o (yielded ops a.tmps) = true then Oper.wp Tryd.prog o a w K Q else E := by
  obtain ⟨i0, hi, hzz⟩ := Option.map_eq_some_iff.1 infoB
  simp only [Prod.mk.injEq] at hzz
  obtain ⟨hz0, hz1, hz2⟩ := hzz
  rw [if_pos hw]
  obtain ⟨ad, rfl, hsrc⟩ := src_own hr hA
  obtain ⟨v', w', hrun, h2, h3, h4, h5⟩ := run_append_own_at (P := Tryd.prog) w B 26 o.type 5 i0 (.int .u8 0) 1 1 Tryd.underlying26 hi hz0 hz1 hz2 rfl (by omega) v l.length _ hown ad r.length c ((ints r).map (Value.int .u8)) (by simp [ints_len]) hsrc (ones_ma _ _) (by unfold maxLen; omega) (by omega) hB
  unfold Oper.wp execOp
  simp only [ho, resolve, invoke, builtin, Sem.run_bind, Sem.run_pure, Result.andThen_ok, List.map_toArray, List.map_cons, List.map_nil, hs, hx, hrun]
  refine h v' w' ?_ h3 h5
  unfold OwnB
  rw [List.length_append, show ints (l ++ r) = ints l ++ ints r by simp [ints], List.map_append]
  exact h2
/-- A load of one cell, in a region that draws its order. -/
theorem yieldsCell {P : Program} (hw : Region.wanted o (yielded ops a.tmps) = true) (ty : TypeId) (x : Operand) (ho : o.op = .load ty x) (b off : Nat) (hx : a.eval x = .pointer (some ⟨b, off, none⟩)) (v : Value) (hS : ∀ w, S w → w.cell? ⟨b, off, none⟩ = some v) (hrun : ∀ w, w.cell? ⟨b, off, none⟩ = some v → (execOp (fun _ => .pointer (some ⟨b, off, none⟩)) { o with op := .load ty (.tmp 0) }).run P w = .ok (.value v) w) : YieldsIf P ops S o v a :=
  .inl ⟨hw, fun w h => by
    have h1 := hrun w (hS w h)
    unfold execOp at h1 ⊢
    rw [ho]
    simp only [hx]
    exact h1⟩
end
set_option maxHeartbeats 2000000 in
theorem cks_own (u c : Nat) (A : Option Addr) (d : List UInt8) (w : World) {Bx : Nat} (hu : u < 4294967296) (hr : OwnB w Bx (.slice A d.length c) d) (hm : d.length ≤ 1000000) : Calls Tryd.prog 42 #[.int .u32 u, .slice A d.length c] w fun e w' => e = .returned (.int .u8 ((ckV u d : Nat) : Int)) ∧ Below w.heap.size w w' := by
  obtain ⟨A', c', e, hr', _⟩ := hr.rd
  injection e with e1 _ e3
  subst e1 e3
  by_cases h0 : A = none
  · obtain ⟨_, _, h3⟩ := own_cap hr
    obtain ⟨h4, h5⟩ := h3 h0
    exact cks_any u c A d w hu hr' (fun _ => ⟨h0, h5⟩) hm
  by_cases h1 : d.length = 0
  · obtain rfl : d = [] := List.eq_nil_of_length_eq_zero h1
    obtain ⟨L, hL⟩ : ∃ L, atL u = L := ⟨_, rfl⟩
    have hl4 : L.length = 4 := by rw [← hL]; rfl
    have HO : Hid (OwnB (w.alloc (.cells #[.int .u8 ((u : Int) % 256), .int .u8 ((u : Int) / 256 % 256), .int .u8 ((u : Int) / 65536 % 256), .int .u8 ((u : Int) / 16777216)] 5)) w.heap.size (.slice (some ⟨w.heap.size, 0, none⟩) 4 4) L) := Lib.hid (by have := own_lit w _ (atL u) (atL_cells u hu) (by unfold maxLen; show 4 ≤ _; omega); rw [hL, hl4] at this; exact this)
    have HR : Hid (OwnB (w.alloc (.cells #[.int .u8 ((u : Int) % 256), .int .u8 ((u : Int) / 256 % 256), .int .u8 ((u : Int) / 65536 % 256), .int .u8 ((u : Int) / 16777216)] 5)) Bx (.slice A ([] : List UInt8).length c) []) := Lib.hid (ownk_below hr ((Below.refl _ _).alloc (Nat.le_refl _) _))
    have HB0 := keepBa (startB w) (.cells #[.int .u8 ((u : Int) % 256), .int .u8 ((u : Int) / 256 % 256), .int .u8 ((u : Int) / 65536 % 256), .int .u8 ((u : Int) / 16777216)] 5)
    have hm2 : L.length + ([] : List UInt8).length ≤ 100000000 := by simp; omega
    obtain ⟨Z, hZ⟩ : ∃ Z, L = Z := ⟨_, rfl⟩
    have hl2 : Z.length ≤ 9223372036854775807 := by rw [← hZ]; omega
    have HZ := Lib.hid hZ
    unfold ckV
    rw [hL, List.append_nil, hZ]
    clear hZ hL hr hr' h0 h1
    go_enter Tryd.func42, Tryd.ntmps42
    go_wp2_with (first | (refine appBO rfl _ _ rfl w.heap.size _ L rfl HO.out A c [] rfl HR.out hm2 (by simp) ?_; intro v2 w3 ho hg _; rw [List.append_nil, HZ.out] at ho; have HB := keepBw HB0 hg (by intro k hk; injection hk with hk; subst hk; exact Nat.le_refl _); obtain ⟨A2, c2, rfl, hr2, _⟩ := ho.rd) | (go_at_call 13; refine (sum_any A2 c2 _ _ hr2 hl2).mono ?_; rintro e w4 ⟨rfl, hb⟩; replace HB := keepB HB hb))
    go_ret
    exact ⟨rfl, HB.out.1⟩
  · exact cks_any u c A d w hu hr' (fun q => absurd q h1) hm
set_option maxHeartbeats 2000000 in
theorem goes_any (Wl Wx : ByteArray) (ul ux nl nx cl cx sl sx : Nat) (Al Ax : Option Addr) (w : World) (b : Bool) (hb : b = decide (Wl.toList ≠ [] ∧ nl = 16 ∧ ul + 16 = ux)) (h1 : ul < 4294967296) (h2 : ux < 4294967296) (h3 : nl ≤ 1000000) :
    Calls Tryd.prog 46 #[.agg (rdA Wl ul (.slice Al nl cl) sl), .agg (rdA Wx ux (.slice Ax nx cx) sx)] w fun e w' => e = .returned (.bool b) ∧ Below w.heap.size w w' := by
  have HB := startB w
  unfold rdA
  by_cases k1 : Wl.toList = []
  · have hb2 : b = false := by rw [hb]; exact decide_eq_false (fun q => q.1 k1)
    subst hb2
    have q1 : Wl.toList.isEmpty = true := by rw [k1]; rfl
    clear hb k1
    go_enter Tryd.func46, Tryd.ntmps46
    go_wp2
    go_ret
    exact ⟨rfl, (keepBa (keepBa HB _) _).out.1⟩
  · have q1 : Wl.toList.isEmpty = false := by cases h : Wl.toList with | nil => exact absurd h k1 | cons _ _ => rfl
    by_cases k2 : nl = 16
    · have q2 : ((nl : Int) == 16) = true := beq_iff_eq.2 (by omega)
      by_cases k3 : ul + 16 = ux
      · have hb2 : b = true := by rw [hb]; exact decide_eq_true ⟨k1, k2, k3⟩
        subst hb2
        have q3 : ((ul : Int) + 16 == (ux : Int)) = true := beq_iff_eq.2 (by omega)
        clear hb k1 k2 k3
        go_enter Tryd.func46, Tryd.ntmps46
        go_wp2
        go_ret
        exact ⟨rfl, (keepBa (keepBa HB _) _).out.1⟩
      · have hb2 : b = false := by rw [hb]; exact decide_eq_false (fun q => k3 q.2.2)
        subst hb2
        have q3 : ((ul : Int) + 16 == (ux : Int)) = false := beq_eq_false_iff_ne.2 (by omega)
        clear hb k1 k2 k3
        go_enter Tryd.func46, Tryd.ntmps46
        go_wp2
        go_ret
        exact ⟨rfl, (keepBa (keepBa HB _) _).out.1⟩
    · have hb2 : b = false := by rw [hb]; exact decide_eq_false (fun q => k2 q.2.1)
      subst hb2
      have q2 : ((nl : Int) == 16) = false := beq_eq_false_iff_ne.2 (by omega)
      clear hb k1 k2
      go_enter Tryd.func46, Tryd.ntmps46
      go_wp2
      go_ret
      exact ⟨rfl, (keepBa (keepBa HB _) _).out.1⟩
end Go.Proofs.YtnigkecpiolgeaaDoor.My
/- Walk: a line put to an image, the program's: each way. -/
set_option linter.unusedVariables false
set_option linter.unusedSimpArgs false
namespace Go.Proofs.YtnigkecpiolgeaaDoor.My
open Go.RowKit
theorem keepOB {w w' : World} {B : Nat} {v : Value} {d : List UInt8} (h : Hid (OwnB w B v d)) (hb : Below w.heap.size w w') : Hid (OwnB w' B v d) := Lib.hid (ownk_below h.out hb)
set_option maxRecDepth 100000 in
set_option maxHeartbeats 1000000 in
theorem next_a (st n c : Nat) (S : Option Addr) (Wl : ByteArray) (ul nl cl sl : Nat) (Al : Option Addr) (Wx : ByteArray) (ux cx sx : Nat) (Ax : Option Addr) (d : List UInt8) (w : World) (Bx : Nat) (hO : OwnB w Bx (.slice Ax d.length cx) d) (hul : ul < 4294967296) (hux : ux < 4294967296) (hsx : sx < 256) (hnl : nl ≤ 1000000) (hd : d.length ≤ 1000000) (hn : n ≤ 1000000) (q1 : (Wl.toList == [115, 116, 97, 114, 116]) = true) : Calls Tryd.prog 33 #[.agg (imA st S n c), .agg (rdA Wl ul (.slice Al nl cl) sl), .agg (rdA Wx ux (.slice Ax d.length cx) sx)] w fun e w' => e = .returned (.tuple #[.agg (imA st S n c), .int .i64 2]) ∧ Below w.heap.size w w' := by
  have HB := startB w
  have HO := Lib.hid hO
  clear hO
  go_enter Tryd.func33, Tryd.ntmps33
  go_upto_region 1 with (first | (refine wlBox ?_ 25 _ rfl (imA st S n c) rfl ?_; exact rfl; intro gI w1 hg hl ha hb; replace HB := keepB HB hb; replace HO := keepOB HO hb; have HI := Lib.hid ha; have HGI : Hid (w.heap.size ≤ gI) := Lib.hid hg; clear ha hb hg hl) | (refine wlBox ?_ 68 _ rfl (rdA Wl ul (.slice Al nl cl) sl) rfl ?_; exact rfl; intro gL w2 hg hl ha hb; replace HB := keepB HB hb; replace HO := keepOB HO hb; have HIL : Hid (gI < gL) := Lib.hid (Nat.lt_of_lt_of_le (Array.getElem?_eq_some_iff.1 HI.out).1 hg); replace HI := keepA HI hb; have HL := Lib.hid ha; clear ha hb hg hl) | (refine wlBox ?_ 68 _ rfl (rdA Wx ux (.slice Ax d.length cx) sx) rfl ?_; exact rfl; intro gX w3 hg hl ha hb; replace HB := keepB HB hb; replace HO := keepOB HO hb; have HIX : Hid (gI < gX) := Lib.hid (Nat.lt_of_lt_of_le (Array.getElem?_eq_some_iff.1 HI.out).1 hg); replace HI := keepA HI hb; replace HL := keepA HL hb; have HX := Lib.hid ha; clear ha hb hg hl) | (refine wlAlloc ?_ 25 rfl (imA 0 none 0 0) zeroIm ?_; exact rfl; intro gT w4 hg hl ha hb; have HGT : Hid (w.heap.size ≤ gT) := Lib.hid (Nat.le_trans HB.out.2 hg); have HTX : Hid (gI < gT) := Lib.hid (Nat.lt_of_lt_of_le (Array.getElem?_eq_some_iff.1 HI.out).1 hg); have HTI : Hid (gT ≠ gI) := Lib.hid (Nat.ne_of_gt (Nat.lt_of_lt_of_le (Array.getElem?_eq_some_iff.1 HI.out).1 hg)); have HTX2 : Hid (gT ≠ gX) := Lib.hid (Nat.ne_of_gt (Nat.lt_of_lt_of_le (Array.getElem?_eq_some_iff.1 HX.out).1 hg)); replace HB := keepB HB hb; replace HO := keepOB HO hb; replace HI := keepA HI hb; replace HL := keepA HL hb; replace HX := keepA HX hb; have HT := Lib.hid ha; have l0 : w4.cell? ⟨gL, 0, none⟩ = some (.string Wl) := cellA HL 0; have l1 : w4.cell? ⟨gL, 1, none⟩ = some (.int .u32 ul) := cellA HL 1; have l2 : w4.cell? ⟨gL, 2, none⟩ = some (.slice Al nl cl) := cellA HL 2; have l3 : w4.cell? ⟨gL, 3, none⟩ = some (.int .u8 sl) := cellA HL 3; have x0 : w4.cell? ⟨gX, 0, none⟩ = some (.string Wx) := cellA HX 0; have x1 : w4.cell? ⟨gX, 1, none⟩ = some (.int .u32 ux) := cellA HX 1; have x2 : w4.cell? ⟨gX, 2, none⟩ = some (.slice Ax d.length cx) := cellA HX 2; have x3 : w4.cell? ⟨gX, 3, none⟩ = some (.int .u8 sx) := cellA HX 3; have i0 : w4.cell? ⟨gI, 0, none⟩ = some (.int .u32 st) := cellA HI 0; have i1 : w4.cell? ⟨gI, 1, none⟩ = some (.slice S n c) := cellA HI 1; clear ha hb hg hl))
  go_upto_region 2 with fail
  go_wp2_with (refine rowStore ?_ 25 _ _ rfl gT rfl (imA st S n c) rfl HT.out infoIm rfl (imA_one _ _ _ _) ?_; exact rfl; intro w9 ha ho; replace HT := Lib.hid ha; skip; replace HB := keepBo HB HGT.out ho; clear ha ho)
  exact bodyPost_ret (res1c rfl _ _ gT 25 (imA st S n c) (0, 0) _ rfl HT.out Tryd.underlying25 rfl infoIm) rfl ⟨rfl, HB.out.1⟩
set_option maxRecDepth 100000 in
set_option maxHeartbeats 1000000 in
theorem next_b (st n c : Nat) (S : Option Addr) (Wl : ByteArray) (ul nl cl sl : Nat) (Al : Option Addr) (Wx : ByteArray) (ux cx sx : Nat) (Ax : Option Addr) (d : List UInt8) (w : World) (Bx : Nat) (hO : OwnB w Bx (.slice Ax d.length cx) d) (hul : ul < 4294967296) (hux : ux < 4294967296) (hsx : sx < 256) (hnl : nl ≤ 1000000) (hd : d.length ≤ 1000000) (hn : n ≤ 1000000) (q1 : (Wl.toList == [115, 116, 97, 114, 116]) = false) (q2 : (Wx.toList == [97, 110, 100]) = true) (hg : false = decide (Wl.toList ≠ [] ∧ nl = 16 ∧ ul + 16 = ux)) : Calls Tryd.prog 33 #[.agg (imA st S n c), .agg (rdA Wl ul (.slice Al nl cl) sl), .agg (rdA Wx ux (.slice Ax d.length cx) sx)] w fun e w' => e = .returned (.tuple #[.agg (imA st S n c), .int .i64 2]) ∧ Below w.heap.size w w' := by
  have HB := startB w
  have HO := Lib.hid hO
  clear hO
  have HG : Hid (∀ w, Calls Tryd.prog 46 #[.agg (rdA Wl ul (.slice Al nl cl) sl), .agg (rdA Wx ux (.slice Ax d.length cx) sx)] w fun e w' => e = .returned (.bool false) ∧ Below w.heap.size w w') := Lib.hid (fun w => goes_any Wl Wx ul ux nl d.length cl cx sl sx Al Ax w false hg hul hux hnl)
  clear hg
  go_enter Tryd.func33, Tryd.ntmps33
  go_upto_region 1 with (first | (refine wlBox ?_ 25 _ rfl (imA st S n c) rfl ?_; exact rfl; intro gI w1 hg hl ha hb; replace HB := keepB HB hb; replace HO := keepOB HO hb; have HI := Lib.hid ha; have HGI : Hid (w.heap.size ≤ gI) := Lib.hid hg; clear ha hb hg hl) | (refine wlBox ?_ 68 _ rfl (rdA Wl ul (.slice Al nl cl) sl) rfl ?_; exact rfl; intro gL w2 hg hl ha hb; replace HB := keepB HB hb; replace HO := keepOB HO hb; have HIL : Hid (gI < gL) := Lib.hid (Nat.lt_of_lt_of_le (Array.getElem?_eq_some_iff.1 HI.out).1 hg); replace HI := keepA HI hb; have HL := Lib.hid ha; clear ha hb hg hl) | (refine wlBox ?_ 68 _ rfl (rdA Wx ux (.slice Ax d.length cx) sx) rfl ?_; exact rfl; intro gX w3 hg hl ha hb; replace HB := keepB HB hb; replace HO := keepOB HO hb; have HIX : Hid (gI < gX) := Lib.hid (Nat.lt_of_lt_of_le (Array.getElem?_eq_some_iff.1 HI.out).1 hg); replace HI := keepA HI hb; replace HL := keepA HL hb; have HX := Lib.hid ha; clear ha hb hg hl) | (refine wlAlloc ?_ 25 rfl (imA 0 none 0 0) zeroIm ?_; exact rfl; intro gT w4 hg hl ha hb; have HGT : Hid (w.heap.size ≤ gT) := Lib.hid (Nat.le_trans HB.out.2 hg); have HTX : Hid (gI < gT) := Lib.hid (Nat.lt_of_lt_of_le (Array.getElem?_eq_some_iff.1 HI.out).1 hg); have HTI : Hid (gT ≠ gI) := Lib.hid (Nat.ne_of_gt (Nat.lt_of_lt_of_le (Array.getElem?_eq_some_iff.1 HI.out).1 hg)); have HTX2 : Hid (gT ≠ gX) := Lib.hid (Nat.ne_of_gt (Nat.lt_of_lt_of_le (Array.getElem?_eq_some_iff.1 HX.out).1 hg)); replace HB := keepB HB hb; replace HO := keepOB HO hb; replace HI := keepA HI hb; replace HL := keepA HL hb; replace HX := keepA HX hb; have HT := Lib.hid ha; have l0 : w4.cell? ⟨gL, 0, none⟩ = some (.string Wl) := cellA HL 0; have l1 : w4.cell? ⟨gL, 1, none⟩ = some (.int .u32 ul) := cellA HL 1; have l2 : w4.cell? ⟨gL, 2, none⟩ = some (.slice Al nl cl) := cellA HL 2; have l3 : w4.cell? ⟨gL, 3, none⟩ = some (.int .u8 sl) := cellA HL 3; have x0 : w4.cell? ⟨gX, 0, none⟩ = some (.string Wx) := cellA HX 0; have x1 : w4.cell? ⟨gX, 1, none⟩ = some (.int .u32 ux) := cellA HX 1; have x2 : w4.cell? ⟨gX, 2, none⟩ = some (.slice Ax d.length cx) := cellA HX 2; have x3 : w4.cell? ⟨gX, 3, none⟩ = some (.int .u8 sx) := cellA HX 3; have i0 : w4.cell? ⟨gI, 0, none⟩ = some (.int .u32 st) := cellA HI 0; have i1 : w4.cell? ⟨gI, 1, none⟩ = some (.slice S n c) := cellA HI 1; clear ha hb hg hl))
  go_upto_region 2 with (go_at_call 46; refine (HG.out _).mono ?_; rintro e w5 ⟨rfl, hb⟩; replace HB := keepB HB hb; replace HO := keepOB HO hb; replace HI := keepA HI hb; replace HL := keepA HL hb; replace HX := keepA HX hb; replace HT := keepA HT hb; have l0 : w5.cell? ⟨gL, 0, none⟩ = some (.string Wl) := cellA HL 0; have l1 : w5.cell? ⟨gL, 1, none⟩ = some (.int .u32 ul) := cellA HL 1; have l2 : w5.cell? ⟨gL, 2, none⟩ = some (.slice Al nl cl) := cellA HL 2; have l3 : w5.cell? ⟨gL, 3, none⟩ = some (.int .u8 sl) := cellA HL 3; have x0 : w5.cell? ⟨gX, 0, none⟩ = some (.string Wx) := cellA HX 0; have x1 : w5.cell? ⟨gX, 1, none⟩ = some (.int .u32 ux) := cellA HX 1; have x2 : w5.cell? ⟨gX, 2, none⟩ = some (.slice Ax d.length cx) := cellA HX 2; have x3 : w5.cell? ⟨gX, 3, none⟩ = some (.int .u8 sx) := cellA HX 3; have i0 : w5.cell? ⟨gI, 0, none⟩ = some (.int .u32 st) := cellA HI 0; have i1 : w5.cell? ⟨gI, 1, none⟩ = some (.slice S n c) := cellA HI 1; clear hb)
  go_wp2_with (refine rowStore ?_ 25 _ _ rfl gT rfl (imA st S n c) rfl HT.out infoIm rfl (imA_one _ _ _ _) ?_; exact rfl; intro w9 ha ho; replace HT := Lib.hid ha; skip; replace HB := keepBo HB HGT.out ho; clear ha ho)
  exact bodyPost_ret (res1c rfl _ _ gT 25 (imA st S n c) (0, 0) _ rfl HT.out Tryd.underlying25 rfl infoIm) rfl ⟨rfl, HB.out.1⟩
set_option maxRecDepth 100000 in
set_option maxHeartbeats 1000000 in
theorem next_c1 (st n c : Nat) (S : Option Addr) (Wl : ByteArray) (ul nl cl sl : Nat) (Al : Option Addr) (Wx : ByteArray) (ux cx sx : Nat) (Ax : Option Addr) (d : List UInt8) (w : World) (Bx : Nat) (hO : OwnB w Bx (.slice Ax d.length cx) d) (hul : ul < 4294967296) (hux : ux < 4294967296) (hsx : sx < 256) (hnl : nl ≤ 1000000) (hd : d.length ≤ 1000000) (hn : n ≤ 1000000) (q1 : (Wl.toList == [115, 116, 97, 114, 116]) = false) (q2 : (Wx.toList == [97, 110, 100]) = false) (hk : ckV ux d ≠ sx) : Calls Tryd.prog 33 #[.agg (imA st S n c), .agg (rdA Wl ul (.slice Al nl cl) sl), .agg (rdA Wx ux (.slice Ax d.length cx) sx)] w fun e w' => e = .returned (.tuple #[.agg (imA st S n c), .int .i64 11]) ∧ Below w.heap.size w w' := by
  have HB := startB w
  have HO := Lib.hid hO
  clear hO
  obtain ⟨ck, hck⟩ : ∃ ck, ckV ux d = ck := ⟨_, rfl⟩
  have hck2 : ck < 256 := by rw [← hck]; exact ckV_lt _ _
  rw [hck] at hk
  have HCK := Lib.hid hck
  clear hck
  have k1 : ((ck : Int) != (sx : Int)) = true := bne_iff_ne.2 (by omega)
  have k2 : ¬ (ck : Int) = (sx : Int) := by omega
  clear hk
  go_enter Tryd.func33, Tryd.ntmps33
  go_upto_region 1 with (first | (refine wlBox ?_ 25 _ rfl (imA st S n c) rfl ?_; exact rfl; intro gI w1 hg hl ha hb; replace HB := keepB HB hb; replace HO := keepOB HO hb; have HI := Lib.hid ha; have HGI : Hid (w.heap.size ≤ gI) := Lib.hid hg; clear ha hb hg hl) | (refine wlBox ?_ 68 _ rfl (rdA Wl ul (.slice Al nl cl) sl) rfl ?_; exact rfl; intro gL w2 hg hl ha hb; replace HB := keepB HB hb; replace HO := keepOB HO hb; have HIL : Hid (gI < gL) := Lib.hid (Nat.lt_of_lt_of_le (Array.getElem?_eq_some_iff.1 HI.out).1 hg); replace HI := keepA HI hb; have HL := Lib.hid ha; clear ha hb hg hl) | (refine wlBox ?_ 68 _ rfl (rdA Wx ux (.slice Ax d.length cx) sx) rfl ?_; exact rfl; intro gX w3 hg hl ha hb; replace HB := keepB HB hb; replace HO := keepOB HO hb; have HIX : Hid (gI < gX) := Lib.hid (Nat.lt_of_lt_of_le (Array.getElem?_eq_some_iff.1 HI.out).1 hg); replace HI := keepA HI hb; replace HL := keepA HL hb; have HX := Lib.hid ha; clear ha hb hg hl) | (refine wlAlloc ?_ 25 rfl (imA 0 none 0 0) zeroIm ?_; exact rfl; intro gT w4 hg hl ha hb; have HGT : Hid (w.heap.size ≤ gT) := Lib.hid (Nat.le_trans HB.out.2 hg); have HTX : Hid (gI < gT) := Lib.hid (Nat.lt_of_lt_of_le (Array.getElem?_eq_some_iff.1 HI.out).1 hg); have HTI : Hid (gT ≠ gI) := Lib.hid (Nat.ne_of_gt (Nat.lt_of_lt_of_le (Array.getElem?_eq_some_iff.1 HI.out).1 hg)); have HTX2 : Hid (gT ≠ gX) := Lib.hid (Nat.ne_of_gt (Nat.lt_of_lt_of_le (Array.getElem?_eq_some_iff.1 HX.out).1 hg)); replace HB := keepB HB hb; replace HO := keepOB HO hb; replace HI := keepA HI hb; replace HL := keepA HL hb; replace HX := keepA HX hb; have HT := Lib.hid ha; have l0 : w4.cell? ⟨gL, 0, none⟩ = some (.string Wl) := cellA HL 0; have l1 : w4.cell? ⟨gL, 1, none⟩ = some (.int .u32 ul) := cellA HL 1; have l2 : w4.cell? ⟨gL, 2, none⟩ = some (.slice Al nl cl) := cellA HL 2; have l3 : w4.cell? ⟨gL, 3, none⟩ = some (.int .u8 sl) := cellA HL 3; have x0 : w4.cell? ⟨gX, 0, none⟩ = some (.string Wx) := cellA HX 0; have x1 : w4.cell? ⟨gX, 1, none⟩ = some (.int .u32 ux) := cellA HX 1; have x2 : w4.cell? ⟨gX, 2, none⟩ = some (.slice Ax d.length cx) := cellA HX 2; have x3 : w4.cell? ⟨gX, 3, none⟩ = some (.int .u8 sx) := cellA HX 3; have i0 : w4.cell? ⟨gI, 0, none⟩ = some (.int .u32 st) := cellA HI 0; have i1 : w4.cell? ⟨gI, 1, none⟩ = some (.slice S n c) := cellA HI 1; clear ha hb hg hl))
  go_wp2
  replace HB := keepB1 HB
  replace HO := Lib.hid (ownk_drew HO.out 1)
  replace HI := keepA1 HI
  replace HL := keepA1 HL
  replace HX := keepA1 HX
  replace HT := keepA1 HT
  refine rgStart (S := (fun w' => w'.heap[gX]? = some (.cells (rdA Wx ux (.slice Ax d.length cx) sx) 68 (0, 0)))) (n := 9) #[false, false, false, false, false, false, false, false, false] (by kernel_rfl) rfl rfl HX.out (fun hHeld => ?_)
  refine rgTake (i := 0) (N := some 26) (oi := { dst := some 26, op := Op.fieldAddr 68 (Operand.tmp 5) 1, type := 0, pos := "rom.go:167", after := #[], guard := none }) (v := ?_) #[true, false, false, false, false, false, false, false, false] rfl rfl (by kernel_rfl) (fun _ _ _ h => h) (Or.inl ⟨by rfl, ?_⟩) hHeld ?_
  rotate_left
  · intro w' hSw; (try dsimp only at hSw); (have x1 : w'.cell? ⟨gX, 1, none⟩ = some (.int .u32 ux) := cellA (Lib.hid hSw) 1; have x2 : w'.cell? ⟨gX, 2, none⟩ = some (.slice Ax d.length cx) := cellA (Lib.hid hSw) 2; have x3 : w'.cell? ⟨gX, 3, none⟩ = some (.int .u8 sx) := cellA (Lib.hid hSw) 3; clear hSw); go_simp; try with_reducible rfl
  simp only [Act.put, List.setIfInBounds_toArray, List.set_cons_zero, List.set_cons_succ]
  refine rgTake (i := 1) (N := some 27) (oi := { dst := some 27, op := Op.load 22 (Operand.tmp 26), type := 22, pos := "rom.go:167", after := #[{ on := 0, ground := Ground.data }], guard := none }) (v := ?_) #[true, true, false, false, false, false, false, false, false] rfl rfl (by kernel_rfl) (fun _ _ _ h => h) (Or.inl ⟨by rfl, ?_⟩) hHeld ?_
  rotate_left
  · intro w' hSw; (try dsimp only at hSw); (have x1 : w'.cell? ⟨gX, 1, none⟩ = some (.int .u32 ux) := cellA (Lib.hid hSw) 1; have x2 : w'.cell? ⟨gX, 2, none⟩ = some (.slice Ax d.length cx) := cellA (Lib.hid hSw) 2; have x3 : w'.cell? ⟨gX, 3, none⟩ = some (.int .u8 sx) := cellA (Lib.hid hSw) 3; clear hSw); go_simp; try with_reducible rfl
  simp only [Act.put, List.setIfInBounds_toArray, List.set_cons_zero, List.set_cons_succ]
  refine rgTake (i := 2) (N := some 28) (oi := { dst := some 28, op := Op.fieldAddr 68 (Operand.tmp 5) 2, type := 0, pos := "rom.go:167", after := #[], guard := none }) (v := ?_) #[true, true, true, false, false, false, false, false, false] rfl rfl (by kernel_rfl) (fun _ _ _ h => h) (Or.inl ⟨by rfl, ?_⟩) hHeld ?_
  rotate_left
  · intro w' hSw; (try dsimp only at hSw); (have x1 : w'.cell? ⟨gX, 1, none⟩ = some (.int .u32 ux) := cellA (Lib.hid hSw) 1; have x2 : w'.cell? ⟨gX, 2, none⟩ = some (.slice Ax d.length cx) := cellA (Lib.hid hSw) 2; have x3 : w'.cell? ⟨gX, 3, none⟩ = some (.int .u8 sx) := cellA (Lib.hid hSw) 3; clear hSw); go_simp; try with_reducible rfl
  simp only [Act.put, List.setIfInBounds_toArray, List.set_cons_zero, List.set_cons_succ]
  refine rgTake (i := 3) (N := some 29) (oi := { dst := some 29, op := Op.load 26 (Operand.tmp 28), type := 26, pos := "rom.go:167", after := #[{ on := 2, ground := Ground.data }], guard := none }) (v := ?_) #[true, true, true, true, false, false, false, false, false] rfl rfl (by kernel_rfl) (fun _ _ _ h => h) (Or.inl ⟨by rfl, ?_⟩) hHeld ?_
  rotate_left
  · intro w' hSw; (try dsimp only at hSw); (have x1 : w'.cell? ⟨gX, 1, none⟩ = some (.int .u32 ux) := cellA (Lib.hid hSw) 1; have x2 : w'.cell? ⟨gX, 2, none⟩ = some (.slice Ax d.length cx) := cellA (Lib.hid hSw) 2; have x3 : w'.cell? ⟨gX, 3, none⟩ = some (.int .u8 sx) := cellA (Lib.hid hSw) 3; clear hSw); go_simp; try with_reducible rfl
  simp only [Act.put, List.setIfInBounds_toArray, List.set_cons_zero, List.set_cons_succ]
  refine rgTake (i := 5) (N := some 31) (oi := { dst := some 31, op := Op.fieldAddr 68 (Operand.tmp 5) 3, type := 0, pos := "rom.go:167", after := #[], guard := none }) (v := ?_) #[true, true, true, true, false, true, false, false, false] rfl rfl (by kernel_rfl) (fun _ _ _ h => h) (Or.inl ⟨by rfl, ?_⟩) hHeld ?_
  rotate_left
  · intro w' hSw; (try dsimp only at hSw); (have x1 : w'.cell? ⟨gX, 1, none⟩ = some (.int .u32 ux) := cellA (Lib.hid hSw) 1; have x2 : w'.cell? ⟨gX, 2, none⟩ = some (.slice Ax d.length cx) := cellA (Lib.hid hSw) 2; have x3 : w'.cell? ⟨gX, 3, none⟩ = some (.int .u8 sx) := cellA (Lib.hid hSw) 3; clear hSw); go_simp; try with_reducible rfl
  simp only [Act.put, List.setIfInBounds_toArray, List.set_cons_zero, List.set_cons_succ]
  refine rgTake (i := 6) (N := some 32) (oi := { dst := some 32, op := Op.load 5 (Operand.tmp 31), type := 5, pos := "rom.go:167", after := #[{ on := 5, ground := Ground.data }], guard := none }) (v := ?_) #[true, true, true, true, false, true, true, false, false] rfl rfl (by kernel_rfl) (fun _ _ _ h => h) (Or.inl ⟨by rfl, ?_⟩) hHeld ?_
  rotate_left
  · intro w' hSw; (try dsimp only at hSw); (have x1 : w'.cell? ⟨gX, 1, none⟩ = some (.int .u32 ux) := cellA (Lib.hid hSw) 1; have x2 : w'.cell? ⟨gX, 2, none⟩ = some (.slice Ax d.length cx) := cellA (Lib.hid hSw) 2; have x3 : w'.cell? ⟨gX, 3, none⟩ = some (.int .u8 sx) := cellA (Lib.hid hSw) 3; clear hSw); go_simp; try with_reducible rfl
  simp only [Act.put, List.setIfInBounds_toArray, List.set_cons_zero, List.set_cons_succ]
  refine rgCall (i := 4) (N := some 30) (oi := { dst := some 30, op := Op.call { callee := Callee.value (Operand.func 42), args := #[Operand.tmp 27, Operand.tmp 29], argTypes := #[22, 26] }, type := 5, pos := "rom.go:167", after := #[{ on := 1, ground := Ground.data }, { on := 3, ground := Ground.data }], guard := none }) #[true, true, true, true, true, true, true, false, false] rfl rfl (by kernel_rfl) (fun K hK => ?_)
  go_simp
  (go_at_call 42; refine (cks_own ux cx Ax d _ hux HO.out hd).mono ?_; rw [HCK.out]; rintro e w6 ⟨rfl, hb⟩; replace HB := keepB HB hb; replace HO := keepOB HO hb; replace HI := keepA HI hb; replace HL := keepA HL hb; replace HX := keepA HX hb; replace HT := keepA HT hb; clear hb)
  refine hK.out _ _ HX.out (fun hHeld => ?_)
  (try simp only [Act.put, List.setIfInBounds_toArray, List.set_cons_zero, List.set_cons_succ])
  clear hK K
  refine rgTake (i := 7) (N := some 33) (oi := { dst := some 33, op := Op.binOp BinOp.neq 5 (Operand.tmp 30) (Operand.tmp 32) 5, type := 4, pos := "rom.go:167", after := #[{ on := 4, ground := Ground.data }, { on := 6, ground := Ground.data }], guard := none }) (v := ?_) #[true, true, true, true, true, true, true, true, false] rfl rfl (by kernel_rfl) (fun _ _ _ h => h) (Or.inl ⟨by rfl, ?_⟩) hHeld ?_
  rotate_left
  · intro w' hSw; (try dsimp only at hSw); (have x1 : w'.cell? ⟨gX, 1, none⟩ = some (.int .u32 ux) := cellA (Lib.hid hSw) 1; have x2 : w'.cell? ⟨gX, 2, none⟩ = some (.slice Ax d.length cx) := cellA (Lib.hid hSw) 2; have x3 : w'.cell? ⟨gX, 3, none⟩ = some (.int .u8 sx) := cellA (Lib.hid hSw) 3; clear hSw); go_simp; try with_reducible rfl
  simp only [Act.put, List.setIfInBounds_toArray, List.set_cons_zero, List.set_cons_succ]
  refine rgTake (i := 8) (N := some 25) (oi := { dst := some 25, op := Op.assign (Operand.tmp 33), type := 4, pos := "rom.go:167", after := #[{ on := 7, ground := Ground.data }, { on := 4, ground := Ground.chain }], guard := none }) (v := ?_) #[true, true, true, true, true, true, true, true, true] rfl rfl (by kernel_rfl) (fun _ _ _ h => h) (Or.inl ⟨by rfl, ?_⟩) hHeld ?_
  rotate_left
  · intro w' hSw; (try dsimp only at hSw); (have x1 : w'.cell? ⟨gX, 1, none⟩ = some (.int .u32 ux) := cellA (Lib.hid hSw) 1; have x2 : w'.cell? ⟨gX, 2, none⟩ = some (.slice Ax d.length cx) := cellA (Lib.hid hSw) 2; have x3 : w'.cell? ⟨gX, 3, none⟩ = some (.int .u8 sx) := cellA (Lib.hid hSw) 3; clear hSw); go_simp; try with_reducible rfl
  simp only [Act.put, List.setIfInBounds_toArray, List.set_cons_zero, List.set_cons_succ]
  refine rgDone (by kernel_rfl) ?_ _
  have l0 : w6.cell? ⟨gL, 0, none⟩ = some (.string Wl) := cellA HL 0; have l1 : w6.cell? ⟨gL, 1, none⟩ = some (.int .u32 ul) := cellA HL 1; have l2 : w6.cell? ⟨gL, 2, none⟩ = some (.slice Al nl cl) := cellA HL 2; have l3 : w6.cell? ⟨gL, 3, none⟩ = some (.int .u8 sl) := cellA HL 3; have x0 : w6.cell? ⟨gX, 0, none⟩ = some (.string Wx) := cellA HX 0; have x1 : w6.cell? ⟨gX, 1, none⟩ = some (.int .u32 ux) := cellA HX 1; have x2 : w6.cell? ⟨gX, 2, none⟩ = some (.slice Ax d.length cx) := cellA HX 2; have x3 : w6.cell? ⟨gX, 3, none⟩ = some (.int .u8 sx) := cellA HX 3; have i0 : w6.cell? ⟨gI, 0, none⟩ = some (.int .u32 st) := cellA HI 0; have i1 : w6.cell? ⟨gI, 1, none⟩ = some (.slice S n c) := cellA HI 1
  go_wp2_with (refine rowStore ?_ 25 _ _ rfl gT rfl (imA st S n c) rfl HT.out infoIm rfl (imA_one _ _ _ _) ?_; exact rfl; intro w9 ha ho; replace HT := Lib.hid ha; skip; replace HB := keepBo HB HGT.out ho; clear ha ho)
  exact bodyPost_ret (res1c rfl _ _ gT 25 (imA st S n c) (0, 0) _ rfl HT.out Tryd.underlying25 rfl infoIm) rfl ⟨rfl, HB.out.1⟩
set_option maxRecDepth 100000 in
set_option maxHeartbeats 1000000 in
theorem next_c2 (st n c : Nat) (S : Option Addr) (Wl : ByteArray) (ul nl cl sl : Nat) (Al : Option Addr) (Wx : ByteArray) (ux cx sx : Nat) (Ax : Option Addr) (d : List UInt8) (w : World) (Bx : Nat) (hO : OwnB w Bx (.slice Ax d.length cx) d) (hul : ul < 4294967296) (hux : ux < 4294967296) (hsx : sx < 256) (hnl : nl ≤ 1000000) (hd : d.length ≤ 1000000) (hn : n ≤ 1000000) (q1 : (Wl.toList == [115, 116, 97, 114, 116]) = false) (q2 : (Wx.toList == [97, 110, 100]) = true) (q3 : (Wx.toList == [115, 116, 97, 114, 116]) = false) (q4 : (Wx.toList == [115, 101, 103]) = false) (hg : true = decide (Wl.toList ≠ [] ∧ nl = 16 ∧ ul + 16 = ux)) (hk : ckV ux d ≠ sx) : Calls Tryd.prog 33 #[.agg (imA st S n c), .agg (rdA Wl ul (.slice Al nl cl) sl), .agg (rdA Wx ux (.slice Ax d.length cx) sx)] w fun e w' => e = .returned (.tuple #[.agg (imA st S n c), .int .i64 11]) ∧ Below w.heap.size w w' := by
  have HB := startB w
  have HO := Lib.hid hO
  clear hO
  have HG : Hid (∀ w, Calls Tryd.prog 46 #[.agg (rdA Wl ul (.slice Al nl cl) sl), .agg (rdA Wx ux (.slice Ax d.length cx) sx)] w fun e w' => e = .returned (.bool true) ∧ Below w.heap.size w w') := Lib.hid (fun w => goes_any Wl Wx ul ux nl d.length cl cx sl sx Al Ax w true hg hul hux hnl)
  clear hg
  obtain ⟨ck, hck⟩ : ∃ ck, ckV ux d = ck := ⟨_, rfl⟩
  have hck2 : ck < 256 := by rw [← hck]; exact ckV_lt _ _
  rw [hck] at hk
  have HCK := Lib.hid hck
  clear hck
  have k1 : ((ck : Int) != (sx : Int)) = true := bne_iff_ne.2 (by omega)
  have k2 : ¬ (ck : Int) = (sx : Int) := by omega
  clear hk
  go_enter Tryd.func33, Tryd.ntmps33
  go_upto_region 1 with (first | (refine wlBox ?_ 25 _ rfl (imA st S n c) rfl ?_; exact rfl; intro gI w1 hg hl ha hb; replace HB := keepB HB hb; replace HO := keepOB HO hb; have HI := Lib.hid ha; have HGI : Hid (w.heap.size ≤ gI) := Lib.hid hg; clear ha hb hg hl) | (refine wlBox ?_ 68 _ rfl (rdA Wl ul (.slice Al nl cl) sl) rfl ?_; exact rfl; intro gL w2 hg hl ha hb; replace HB := keepB HB hb; replace HO := keepOB HO hb; have HIL : Hid (gI < gL) := Lib.hid (Nat.lt_of_lt_of_le (Array.getElem?_eq_some_iff.1 HI.out).1 hg); replace HI := keepA HI hb; have HL := Lib.hid ha; clear ha hb hg hl) | (refine wlBox ?_ 68 _ rfl (rdA Wx ux (.slice Ax d.length cx) sx) rfl ?_; exact rfl; intro gX w3 hg hl ha hb; replace HB := keepB HB hb; replace HO := keepOB HO hb; have HIX : Hid (gI < gX) := Lib.hid (Nat.lt_of_lt_of_le (Array.getElem?_eq_some_iff.1 HI.out).1 hg); replace HI := keepA HI hb; replace HL := keepA HL hb; have HX := Lib.hid ha; clear ha hb hg hl) | (refine wlAlloc ?_ 25 rfl (imA 0 none 0 0) zeroIm ?_; exact rfl; intro gT w4 hg hl ha hb; have HGT : Hid (w.heap.size ≤ gT) := Lib.hid (Nat.le_trans HB.out.2 hg); have HTX : Hid (gI < gT) := Lib.hid (Nat.lt_of_lt_of_le (Array.getElem?_eq_some_iff.1 HI.out).1 hg); have HTI : Hid (gT ≠ gI) := Lib.hid (Nat.ne_of_gt (Nat.lt_of_lt_of_le (Array.getElem?_eq_some_iff.1 HI.out).1 hg)); have HTX2 : Hid (gT ≠ gX) := Lib.hid (Nat.ne_of_gt (Nat.lt_of_lt_of_le (Array.getElem?_eq_some_iff.1 HX.out).1 hg)); replace HB := keepB HB hb; replace HO := keepOB HO hb; replace HI := keepA HI hb; replace HL := keepA HL hb; replace HX := keepA HX hb; have HT := Lib.hid ha; have l0 : w4.cell? ⟨gL, 0, none⟩ = some (.string Wl) := cellA HL 0; have l1 : w4.cell? ⟨gL, 1, none⟩ = some (.int .u32 ul) := cellA HL 1; have l2 : w4.cell? ⟨gL, 2, none⟩ = some (.slice Al nl cl) := cellA HL 2; have l3 : w4.cell? ⟨gL, 3, none⟩ = some (.int .u8 sl) := cellA HL 3; have x0 : w4.cell? ⟨gX, 0, none⟩ = some (.string Wx) := cellA HX 0; have x1 : w4.cell? ⟨gX, 1, none⟩ = some (.int .u32 ux) := cellA HX 1; have x2 : w4.cell? ⟨gX, 2, none⟩ = some (.slice Ax d.length cx) := cellA HX 2; have x3 : w4.cell? ⟨gX, 3, none⟩ = some (.int .u8 sx) := cellA HX 3; have i0 : w4.cell? ⟨gI, 0, none⟩ = some (.int .u32 st) := cellA HI 0; have i1 : w4.cell? ⟨gI, 1, none⟩ = some (.slice S n c) := cellA HI 1; clear ha hb hg hl))
  go_wp2_with (go_at_call 46; refine (HG.out _).mono ?_; rintro e w5 ⟨rfl, hb⟩; replace HB := keepB HB hb; replace HO := keepOB HO hb; replace HI := keepA HI hb; replace HL := keepA HL hb; replace HX := keepA HX hb; replace HT := keepA HT hb; have l0 : w5.cell? ⟨gL, 0, none⟩ = some (.string Wl) := cellA HL 0; have l1 : w5.cell? ⟨gL, 1, none⟩ = some (.int .u32 ul) := cellA HL 1; have l2 : w5.cell? ⟨gL, 2, none⟩ = some (.slice Al nl cl) := cellA HL 2; have l3 : w5.cell? ⟨gL, 3, none⟩ = some (.int .u8 sl) := cellA HL 3; have x0 : w5.cell? ⟨gX, 0, none⟩ = some (.string Wx) := cellA HX 0; have x1 : w5.cell? ⟨gX, 1, none⟩ = some (.int .u32 ux) := cellA HX 1; have x2 : w5.cell? ⟨gX, 2, none⟩ = some (.slice Ax d.length cx) := cellA HX 2; have x3 : w5.cell? ⟨gX, 3, none⟩ = some (.int .u8 sx) := cellA HX 3; have i0 : w5.cell? ⟨gI, 0, none⟩ = some (.int .u32 st) := cellA HI 0; have i1 : w5.cell? ⟨gI, 1, none⟩ = some (.slice S n c) := cellA HI 1; clear hb)
  replace HB := keepB1 HB
  replace HO := Lib.hid (ownk_drew HO.out 1)
  replace HI := keepA1 HI
  replace HL := keepA1 HL
  replace HX := keepA1 HX
  replace HT := keepA1 HT
  refine rgStart (S := (fun w' => w'.heap[gX]? = some (.cells (rdA Wx ux (.slice Ax d.length cx) sx) 68 (0, 0)))) (n := 9) #[false, false, false, false, false, false, false, false, false] (by kernel_rfl) rfl rfl HX.out (fun hHeld => ?_)
  refine rgTake (i := 0) (N := some 26) (oi := { dst := some 26, op := Op.fieldAddr 68 (Operand.tmp 5) 1, type := 0, pos := "rom.go:167", after := #[], guard := none }) (v := ?_) #[true, false, false, false, false, false, false, false, false] rfl rfl (by kernel_rfl) (fun _ _ _ h => h) (Or.inl ⟨by rfl, ?_⟩) hHeld ?_
  rotate_left
  · intro w' hSw; (try dsimp only at hSw); (have x1 : w'.cell? ⟨gX, 1, none⟩ = some (.int .u32 ux) := cellA (Lib.hid hSw) 1; have x2 : w'.cell? ⟨gX, 2, none⟩ = some (.slice Ax d.length cx) := cellA (Lib.hid hSw) 2; have x3 : w'.cell? ⟨gX, 3, none⟩ = some (.int .u8 sx) := cellA (Lib.hid hSw) 3; clear hSw); go_simp; try with_reducible rfl
  simp only [Act.put, List.setIfInBounds_toArray, List.set_cons_zero, List.set_cons_succ]
  refine rgTake (i := 1) (N := some 27) (oi := { dst := some 27, op := Op.load 22 (Operand.tmp 26), type := 22, pos := "rom.go:167", after := #[{ on := 0, ground := Ground.data }], guard := none }) (v := ?_) #[true, true, false, false, false, false, false, false, false] rfl rfl (by kernel_rfl) (fun _ _ _ h => h) (Or.inl ⟨by rfl, ?_⟩) hHeld ?_
  rotate_left
  · intro w' hSw; (try dsimp only at hSw); (have x1 : w'.cell? ⟨gX, 1, none⟩ = some (.int .u32 ux) := cellA (Lib.hid hSw) 1; have x2 : w'.cell? ⟨gX, 2, none⟩ = some (.slice Ax d.length cx) := cellA (Lib.hid hSw) 2; have x3 : w'.cell? ⟨gX, 3, none⟩ = some (.int .u8 sx) := cellA (Lib.hid hSw) 3; clear hSw); go_simp; try with_reducible rfl
  simp only [Act.put, List.setIfInBounds_toArray, List.set_cons_zero, List.set_cons_succ]
  refine rgTake (i := 2) (N := some 28) (oi := { dst := some 28, op := Op.fieldAddr 68 (Operand.tmp 5) 2, type := 0, pos := "rom.go:167", after := #[], guard := none }) (v := ?_) #[true, true, true, false, false, false, false, false, false] rfl rfl (by kernel_rfl) (fun _ _ _ h => h) (Or.inl ⟨by rfl, ?_⟩) hHeld ?_
  rotate_left
  · intro w' hSw; (try dsimp only at hSw); (have x1 : w'.cell? ⟨gX, 1, none⟩ = some (.int .u32 ux) := cellA (Lib.hid hSw) 1; have x2 : w'.cell? ⟨gX, 2, none⟩ = some (.slice Ax d.length cx) := cellA (Lib.hid hSw) 2; have x3 : w'.cell? ⟨gX, 3, none⟩ = some (.int .u8 sx) := cellA (Lib.hid hSw) 3; clear hSw); go_simp; try with_reducible rfl
  simp only [Act.put, List.setIfInBounds_toArray, List.set_cons_zero, List.set_cons_succ]
  refine rgTake (i := 3) (N := some 29) (oi := { dst := some 29, op := Op.load 26 (Operand.tmp 28), type := 26, pos := "rom.go:167", after := #[{ on := 2, ground := Ground.data }], guard := none }) (v := ?_) #[true, true, true, true, false, false, false, false, false] rfl rfl (by kernel_rfl) (fun _ _ _ h => h) (Or.inl ⟨by rfl, ?_⟩) hHeld ?_
  rotate_left
  · intro w' hSw; (try dsimp only at hSw); (have x1 : w'.cell? ⟨gX, 1, none⟩ = some (.int .u32 ux) := cellA (Lib.hid hSw) 1; have x2 : w'.cell? ⟨gX, 2, none⟩ = some (.slice Ax d.length cx) := cellA (Lib.hid hSw) 2; have x3 : w'.cell? ⟨gX, 3, none⟩ = some (.int .u8 sx) := cellA (Lib.hid hSw) 3; clear hSw); go_simp; try with_reducible rfl
  simp only [Act.put, List.setIfInBounds_toArray, List.set_cons_zero, List.set_cons_succ]
  refine rgTake (i := 5) (N := some 31) (oi := { dst := some 31, op := Op.fieldAddr 68 (Operand.tmp 5) 3, type := 0, pos := "rom.go:167", after := #[], guard := none }) (v := ?_) #[true, true, true, true, false, true, false, false, false] rfl rfl (by kernel_rfl) (fun _ _ _ h => h) (Or.inl ⟨by rfl, ?_⟩) hHeld ?_
  rotate_left
  · intro w' hSw; (try dsimp only at hSw); (have x1 : w'.cell? ⟨gX, 1, none⟩ = some (.int .u32 ux) := cellA (Lib.hid hSw) 1; have x2 : w'.cell? ⟨gX, 2, none⟩ = some (.slice Ax d.length cx) := cellA (Lib.hid hSw) 2; have x3 : w'.cell? ⟨gX, 3, none⟩ = some (.int .u8 sx) := cellA (Lib.hid hSw) 3; clear hSw); go_simp; try with_reducible rfl
  simp only [Act.put, List.setIfInBounds_toArray, List.set_cons_zero, List.set_cons_succ]
  refine rgTake (i := 6) (N := some 32) (oi := { dst := some 32, op := Op.load 5 (Operand.tmp 31), type := 5, pos := "rom.go:167", after := #[{ on := 5, ground := Ground.data }], guard := none }) (v := ?_) #[true, true, true, true, false, true, true, false, false] rfl rfl (by kernel_rfl) (fun _ _ _ h => h) (Or.inl ⟨by rfl, ?_⟩) hHeld ?_
  rotate_left
  · intro w' hSw; (try dsimp only at hSw); (have x1 : w'.cell? ⟨gX, 1, none⟩ = some (.int .u32 ux) := cellA (Lib.hid hSw) 1; have x2 : w'.cell? ⟨gX, 2, none⟩ = some (.slice Ax d.length cx) := cellA (Lib.hid hSw) 2; have x3 : w'.cell? ⟨gX, 3, none⟩ = some (.int .u8 sx) := cellA (Lib.hid hSw) 3; clear hSw); go_simp; try with_reducible rfl
  simp only [Act.put, List.setIfInBounds_toArray, List.set_cons_zero, List.set_cons_succ]
  refine rgCall (i := 4) (N := some 30) (oi := { dst := some 30, op := Op.call { callee := Callee.value (Operand.func 42), args := #[Operand.tmp 27, Operand.tmp 29], argTypes := #[22, 26] }, type := 5, pos := "rom.go:167", after := #[{ on := 1, ground := Ground.data }, { on := 3, ground := Ground.data }], guard := none }) #[true, true, true, true, true, true, true, false, false] rfl rfl (by kernel_rfl) (fun K hK => ?_)
  go_simp
  (go_at_call 42; refine (cks_own ux cx Ax d _ hux HO.out hd).mono ?_; rw [HCK.out]; rintro e w6 ⟨rfl, hb⟩; replace HB := keepB HB hb; replace HO := keepOB HO hb; replace HI := keepA HI hb; replace HL := keepA HL hb; replace HX := keepA HX hb; replace HT := keepA HT hb; clear hb)
  refine hK.out _ _ HX.out (fun hHeld => ?_)
  (try simp only [Act.put, List.setIfInBounds_toArray, List.set_cons_zero, List.set_cons_succ])
  clear hK K
  refine rgTake (i := 7) (N := some 33) (oi := { dst := some 33, op := Op.binOp BinOp.neq 5 (Operand.tmp 30) (Operand.tmp 32) 5, type := 4, pos := "rom.go:167", after := #[{ on := 4, ground := Ground.data }, { on := 6, ground := Ground.data }], guard := none }) (v := ?_) #[true, true, true, true, true, true, true, true, false] rfl rfl (by kernel_rfl) (fun _ _ _ h => h) (Or.inl ⟨by rfl, ?_⟩) hHeld ?_
  rotate_left
  · intro w' hSw; (try dsimp only at hSw); (have x1 : w'.cell? ⟨gX, 1, none⟩ = some (.int .u32 ux) := cellA (Lib.hid hSw) 1; have x2 : w'.cell? ⟨gX, 2, none⟩ = some (.slice Ax d.length cx) := cellA (Lib.hid hSw) 2; have x3 : w'.cell? ⟨gX, 3, none⟩ = some (.int .u8 sx) := cellA (Lib.hid hSw) 3; clear hSw); go_simp; try with_reducible rfl
  simp only [Act.put, List.setIfInBounds_toArray, List.set_cons_zero, List.set_cons_succ]
  refine rgTake (i := 8) (N := some 25) (oi := { dst := some 25, op := Op.assign (Operand.tmp 33), type := 4, pos := "rom.go:167", after := #[{ on := 7, ground := Ground.data }, { on := 4, ground := Ground.chain }], guard := none }) (v := ?_) #[true, true, true, true, true, true, true, true, true] rfl rfl (by kernel_rfl) (fun _ _ _ h => h) (Or.inl ⟨by rfl, ?_⟩) hHeld ?_
  rotate_left
  · intro w' hSw; (try dsimp only at hSw); (have x1 : w'.cell? ⟨gX, 1, none⟩ = some (.int .u32 ux) := cellA (Lib.hid hSw) 1; have x2 : w'.cell? ⟨gX, 2, none⟩ = some (.slice Ax d.length cx) := cellA (Lib.hid hSw) 2; have x3 : w'.cell? ⟨gX, 3, none⟩ = some (.int .u8 sx) := cellA (Lib.hid hSw) 3; clear hSw); go_simp; try with_reducible rfl
  simp only [Act.put, List.setIfInBounds_toArray, List.set_cons_zero, List.set_cons_succ]
  refine rgDone (by kernel_rfl) ?_ _
  have l0 : w6.cell? ⟨gL, 0, none⟩ = some (.string Wl) := cellA HL 0; have l1 : w6.cell? ⟨gL, 1, none⟩ = some (.int .u32 ul) := cellA HL 1; have l2 : w6.cell? ⟨gL, 2, none⟩ = some (.slice Al nl cl) := cellA HL 2; have l3 : w6.cell? ⟨gL, 3, none⟩ = some (.int .u8 sl) := cellA HL 3; have x0 : w6.cell? ⟨gX, 0, none⟩ = some (.string Wx) := cellA HX 0; have x1 : w6.cell? ⟨gX, 1, none⟩ = some (.int .u32 ux) := cellA HX 1; have x2 : w6.cell? ⟨gX, 2, none⟩ = some (.slice Ax d.length cx) := cellA HX 2; have x3 : w6.cell? ⟨gX, 3, none⟩ = some (.int .u8 sx) := cellA HX 3; have i0 : w6.cell? ⟨gI, 0, none⟩ = some (.int .u32 st) := cellA HI 0; have i1 : w6.cell? ⟨gI, 1, none⟩ = some (.slice S n c) := cellA HI 1
  go_wp2_with (refine rowStore ?_ 25 _ _ rfl gT rfl (imA st S n c) rfl HT.out infoIm rfl (imA_one _ _ _ _) ?_; exact rfl; intro w9 ha ho; replace HT := Lib.hid ha; skip; replace HB := keepBo HB HGT.out ho; clear ha ho)
  exact bodyPost_ret (res1c rfl _ _ gT 25 (imA st S n c) (0, 0) _ rfl HT.out Tryd.underlying25 rfl infoIm) rfl ⟨rfl, HB.out.1⟩
set_option maxRecDepth 100000 in
set_option maxHeartbeats 1000000 in
theorem next_d (st n c : Nat) (S : Option Addr) (Wl : ByteArray) (ul nl cl sl : Nat) (Al : Option Addr) (Wx : ByteArray) (ux cx sx : Nat) (Ax : Option Addr) (d : List UInt8) (w : World) (Bx : Nat) (hO : OwnB w Bx (.slice Ax d.length cx) d) (hul : ul < 4294967296) (hux : ux < 4294967296) (hsx : sx < 256) (hnl : nl ≤ 1000000) (hd : d.length ≤ 1000000) (hn : n ≤ 1000000) (q1 : (Wl.toList == [115, 116, 97, 114, 116]) = false) (q2 : (Wx.toList == [97, 110, 100]) = false) (q3 : (Wx.toList == [115, 116, 97, 114, 116]) = true) (hk : ckV ux d = sx) : Calls Tryd.prog 33 #[.agg (imA st S n c), .agg (rdA Wl ul (.slice Al nl cl) sl), .agg (rdA Wx ux (.slice Ax d.length cx) sx)] w fun e w' => e = .returned (.tuple #[.agg (imA ux S n c), .int .i64 0]) ∧ Below w.heap.size w w' := by
  have HB := startB w
  have HO := Lib.hid hO
  clear hO
  have HCK := Lib.hid hk
  clear hk
  go_enter Tryd.func33, Tryd.ntmps33
  go_upto_region 1 with (first | (refine wlBox ?_ 25 _ rfl (imA st S n c) rfl ?_; exact rfl; intro gI w1 hg hl ha hb; replace HB := keepB HB hb; replace HO := keepOB HO hb; have HI := Lib.hid ha; have HGI : Hid (w.heap.size ≤ gI) := Lib.hid hg; clear ha hb hg hl) | (refine wlBox ?_ 68 _ rfl (rdA Wl ul (.slice Al nl cl) sl) rfl ?_; exact rfl; intro gL w2 hg hl ha hb; replace HB := keepB HB hb; replace HO := keepOB HO hb; have HIL : Hid (gI < gL) := Lib.hid (Nat.lt_of_lt_of_le (Array.getElem?_eq_some_iff.1 HI.out).1 hg); replace HI := keepA HI hb; have HL := Lib.hid ha; clear ha hb hg hl) | (refine wlBox ?_ 68 _ rfl (rdA Wx ux (.slice Ax d.length cx) sx) rfl ?_; exact rfl; intro gX w3 hg hl ha hb; replace HB := keepB HB hb; replace HO := keepOB HO hb; have HIX : Hid (gI < gX) := Lib.hid (Nat.lt_of_lt_of_le (Array.getElem?_eq_some_iff.1 HI.out).1 hg); replace HI := keepA HI hb; replace HL := keepA HL hb; have HX := Lib.hid ha; clear ha hb hg hl) | (refine wlAlloc ?_ 25 rfl (imA 0 none 0 0) zeroIm ?_; exact rfl; intro gT w4 hg hl ha hb; have HGT : Hid (w.heap.size ≤ gT) := Lib.hid (Nat.le_trans HB.out.2 hg); have HTX : Hid (gI < gT) := Lib.hid (Nat.lt_of_lt_of_le (Array.getElem?_eq_some_iff.1 HI.out).1 hg); have HTI : Hid (gT ≠ gI) := Lib.hid (Nat.ne_of_gt (Nat.lt_of_lt_of_le (Array.getElem?_eq_some_iff.1 HI.out).1 hg)); have HTX2 : Hid (gT ≠ gX) := Lib.hid (Nat.ne_of_gt (Nat.lt_of_lt_of_le (Array.getElem?_eq_some_iff.1 HX.out).1 hg)); replace HB := keepB HB hb; replace HO := keepOB HO hb; replace HI := keepA HI hb; replace HL := keepA HL hb; replace HX := keepA HX hb; have HT := Lib.hid ha; have l0 : w4.cell? ⟨gL, 0, none⟩ = some (.string Wl) := cellA HL 0; have l1 : w4.cell? ⟨gL, 1, none⟩ = some (.int .u32 ul) := cellA HL 1; have l2 : w4.cell? ⟨gL, 2, none⟩ = some (.slice Al nl cl) := cellA HL 2; have l3 : w4.cell? ⟨gL, 3, none⟩ = some (.int .u8 sl) := cellA HL 3; have x0 : w4.cell? ⟨gX, 0, none⟩ = some (.string Wx) := cellA HX 0; have x1 : w4.cell? ⟨gX, 1, none⟩ = some (.int .u32 ux) := cellA HX 1; have x2 : w4.cell? ⟨gX, 2, none⟩ = some (.slice Ax d.length cx) := cellA HX 2; have x3 : w4.cell? ⟨gX, 3, none⟩ = some (.int .u8 sx) := cellA HX 3; have i0 : w4.cell? ⟨gI, 0, none⟩ = some (.int .u32 st) := cellA HI 0; have i1 : w4.cell? ⟨gI, 1, none⟩ = some (.slice S n c) := cellA HI 1; clear ha hb hg hl))
  go_wp2
  replace HB := keepB1 HB
  replace HO := Lib.hid (ownk_drew HO.out 1)
  replace HI := keepA1 HI
  replace HL := keepA1 HL
  replace HX := keepA1 HX
  replace HT := keepA1 HT
  refine rgStart (S := (fun w' => w'.heap[gX]? = some (.cells (rdA Wx ux (.slice Ax d.length cx) sx) 68 (0, 0)))) (n := 9) #[false, false, false, false, false, false, false, false, false] (by kernel_rfl) rfl rfl HX.out (fun hHeld => ?_)
  refine rgTake (i := 0) (N := some 26) (oi := { dst := some 26, op := Op.fieldAddr 68 (Operand.tmp 5) 1, type := 0, pos := "rom.go:167", after := #[], guard := none }) (v := ?_) #[true, false, false, false, false, false, false, false, false] rfl rfl (by kernel_rfl) (fun _ _ _ h => h) (Or.inl ⟨by rfl, ?_⟩) hHeld ?_
  rotate_left
  · intro w' hSw; (try dsimp only at hSw); (have x1 : w'.cell? ⟨gX, 1, none⟩ = some (.int .u32 ux) := cellA (Lib.hid hSw) 1; have x2 : w'.cell? ⟨gX, 2, none⟩ = some (.slice Ax d.length cx) := cellA (Lib.hid hSw) 2; have x3 : w'.cell? ⟨gX, 3, none⟩ = some (.int .u8 sx) := cellA (Lib.hid hSw) 3; clear hSw); go_simp; try with_reducible rfl
  simp only [Act.put, List.setIfInBounds_toArray, List.set_cons_zero, List.set_cons_succ]
  refine rgTake (i := 1) (N := some 27) (oi := { dst := some 27, op := Op.load 22 (Operand.tmp 26), type := 22, pos := "rom.go:167", after := #[{ on := 0, ground := Ground.data }], guard := none }) (v := ?_) #[true, true, false, false, false, false, false, false, false] rfl rfl (by kernel_rfl) (fun _ _ _ h => h) (Or.inl ⟨by rfl, ?_⟩) hHeld ?_
  rotate_left
  · intro w' hSw; (try dsimp only at hSw); (have x1 : w'.cell? ⟨gX, 1, none⟩ = some (.int .u32 ux) := cellA (Lib.hid hSw) 1; have x2 : w'.cell? ⟨gX, 2, none⟩ = some (.slice Ax d.length cx) := cellA (Lib.hid hSw) 2; have x3 : w'.cell? ⟨gX, 3, none⟩ = some (.int .u8 sx) := cellA (Lib.hid hSw) 3; clear hSw); go_simp; try with_reducible rfl
  simp only [Act.put, List.setIfInBounds_toArray, List.set_cons_zero, List.set_cons_succ]
  refine rgTake (i := 2) (N := some 28) (oi := { dst := some 28, op := Op.fieldAddr 68 (Operand.tmp 5) 2, type := 0, pos := "rom.go:167", after := #[], guard := none }) (v := ?_) #[true, true, true, false, false, false, false, false, false] rfl rfl (by kernel_rfl) (fun _ _ _ h => h) (Or.inl ⟨by rfl, ?_⟩) hHeld ?_
  rotate_left
  · intro w' hSw; (try dsimp only at hSw); (have x1 : w'.cell? ⟨gX, 1, none⟩ = some (.int .u32 ux) := cellA (Lib.hid hSw) 1; have x2 : w'.cell? ⟨gX, 2, none⟩ = some (.slice Ax d.length cx) := cellA (Lib.hid hSw) 2; have x3 : w'.cell? ⟨gX, 3, none⟩ = some (.int .u8 sx) := cellA (Lib.hid hSw) 3; clear hSw); go_simp; try with_reducible rfl
  simp only [Act.put, List.setIfInBounds_toArray, List.set_cons_zero, List.set_cons_succ]
  refine rgTake (i := 3) (N := some 29) (oi := { dst := some 29, op := Op.load 26 (Operand.tmp 28), type := 26, pos := "rom.go:167", after := #[{ on := 2, ground := Ground.data }], guard := none }) (v := ?_) #[true, true, true, true, false, false, false, false, false] rfl rfl (by kernel_rfl) (fun _ _ _ h => h) (Or.inl ⟨by rfl, ?_⟩) hHeld ?_
  rotate_left
  · intro w' hSw; (try dsimp only at hSw); (have x1 : w'.cell? ⟨gX, 1, none⟩ = some (.int .u32 ux) := cellA (Lib.hid hSw) 1; have x2 : w'.cell? ⟨gX, 2, none⟩ = some (.slice Ax d.length cx) := cellA (Lib.hid hSw) 2; have x3 : w'.cell? ⟨gX, 3, none⟩ = some (.int .u8 sx) := cellA (Lib.hid hSw) 3; clear hSw); go_simp; try with_reducible rfl
  simp only [Act.put, List.setIfInBounds_toArray, List.set_cons_zero, List.set_cons_succ]
  refine rgTake (i := 5) (N := some 31) (oi := { dst := some 31, op := Op.fieldAddr 68 (Operand.tmp 5) 3, type := 0, pos := "rom.go:167", after := #[], guard := none }) (v := ?_) #[true, true, true, true, false, true, false, false, false] rfl rfl (by kernel_rfl) (fun _ _ _ h => h) (Or.inl ⟨by rfl, ?_⟩) hHeld ?_
  rotate_left
  · intro w' hSw; (try dsimp only at hSw); (have x1 : w'.cell? ⟨gX, 1, none⟩ = some (.int .u32 ux) := cellA (Lib.hid hSw) 1; have x2 : w'.cell? ⟨gX, 2, none⟩ = some (.slice Ax d.length cx) := cellA (Lib.hid hSw) 2; have x3 : w'.cell? ⟨gX, 3, none⟩ = some (.int .u8 sx) := cellA (Lib.hid hSw) 3; clear hSw); go_simp; try with_reducible rfl
  simp only [Act.put, List.setIfInBounds_toArray, List.set_cons_zero, List.set_cons_succ]
  refine rgTake (i := 6) (N := some 32) (oi := { dst := some 32, op := Op.load 5 (Operand.tmp 31), type := 5, pos := "rom.go:167", after := #[{ on := 5, ground := Ground.data }], guard := none }) (v := ?_) #[true, true, true, true, false, true, true, false, false] rfl rfl (by kernel_rfl) (fun _ _ _ h => h) (Or.inl ⟨by rfl, ?_⟩) hHeld ?_
  rotate_left
  · intro w' hSw; (try dsimp only at hSw); (have x1 : w'.cell? ⟨gX, 1, none⟩ = some (.int .u32 ux) := cellA (Lib.hid hSw) 1; have x2 : w'.cell? ⟨gX, 2, none⟩ = some (.slice Ax d.length cx) := cellA (Lib.hid hSw) 2; have x3 : w'.cell? ⟨gX, 3, none⟩ = some (.int .u8 sx) := cellA (Lib.hid hSw) 3; clear hSw); go_simp; try with_reducible rfl
  simp only [Act.put, List.setIfInBounds_toArray, List.set_cons_zero, List.set_cons_succ]
  refine rgCall (i := 4) (N := some 30) (oi := { dst := some 30, op := Op.call { callee := Callee.value (Operand.func 42), args := #[Operand.tmp 27, Operand.tmp 29], argTypes := #[22, 26] }, type := 5, pos := "rom.go:167", after := #[{ on := 1, ground := Ground.data }, { on := 3, ground := Ground.data }], guard := none }) #[true, true, true, true, true, true, true, false, false] rfl rfl (by kernel_rfl) (fun K hK => ?_)
  go_simp
  (go_at_call 42; refine (cks_own ux cx Ax d _ hux HO.out hd).mono ?_; rw [HCK.out]; rintro e w6 ⟨rfl, hb⟩; replace HB := keepB HB hb; replace HO := keepOB HO hb; replace HI := keepA HI hb; replace HL := keepA HL hb; replace HX := keepA HX hb; replace HT := keepA HT hb; clear hb)
  refine hK.out _ _ HX.out (fun hHeld => ?_)
  (try simp only [Act.put, List.setIfInBounds_toArray, List.set_cons_zero, List.set_cons_succ])
  clear hK K
  refine rgTake (i := 7) (N := some 33) (oi := { dst := some 33, op := Op.binOp BinOp.neq 5 (Operand.tmp 30) (Operand.tmp 32) 5, type := 4, pos := "rom.go:167", after := #[{ on := 4, ground := Ground.data }, { on := 6, ground := Ground.data }], guard := none }) (v := ?_) #[true, true, true, true, true, true, true, true, false] rfl rfl (by kernel_rfl) (fun _ _ _ h => h) (Or.inl ⟨by rfl, ?_⟩) hHeld ?_
  rotate_left
  · intro w' hSw; (try dsimp only at hSw); (have x1 : w'.cell? ⟨gX, 1, none⟩ = some (.int .u32 ux) := cellA (Lib.hid hSw) 1; have x2 : w'.cell? ⟨gX, 2, none⟩ = some (.slice Ax d.length cx) := cellA (Lib.hid hSw) 2; have x3 : w'.cell? ⟨gX, 3, none⟩ = some (.int .u8 sx) := cellA (Lib.hid hSw) 3; clear hSw); go_simp; try with_reducible rfl
  simp only [Act.put, List.setIfInBounds_toArray, List.set_cons_zero, List.set_cons_succ]
  refine rgTake (i := 8) (N := some 25) (oi := { dst := some 25, op := Op.assign (Operand.tmp 33), type := 4, pos := "rom.go:167", after := #[{ on := 7, ground := Ground.data }, { on := 4, ground := Ground.chain }], guard := none }) (v := ?_) #[true, true, true, true, true, true, true, true, true] rfl rfl (by kernel_rfl) (fun _ _ _ h => h) (Or.inl ⟨by rfl, ?_⟩) hHeld ?_
  rotate_left
  · intro w' hSw; (try dsimp only at hSw); (have x1 : w'.cell? ⟨gX, 1, none⟩ = some (.int .u32 ux) := cellA (Lib.hid hSw) 1; have x2 : w'.cell? ⟨gX, 2, none⟩ = some (.slice Ax d.length cx) := cellA (Lib.hid hSw) 2; have x3 : w'.cell? ⟨gX, 3, none⟩ = some (.int .u8 sx) := cellA (Lib.hid hSw) 3; clear hSw); go_simp; try with_reducible rfl
  simp only [Act.put, List.setIfInBounds_toArray, List.set_cons_zero, List.set_cons_succ]
  refine rgDone (by kernel_rfl) ?_ _
  have l0 : w6.cell? ⟨gL, 0, none⟩ = some (.string Wl) := cellA HL 0; have l1 : w6.cell? ⟨gL, 1, none⟩ = some (.int .u32 ul) := cellA HL 1; have l2 : w6.cell? ⟨gL, 2, none⟩ = some (.slice Al nl cl) := cellA HL 2; have l3 : w6.cell? ⟨gL, 3, none⟩ = some (.int .u8 sl) := cellA HL 3; have x0 : w6.cell? ⟨gX, 0, none⟩ = some (.string Wx) := cellA HX 0; have x1 : w6.cell? ⟨gX, 1, none⟩ = some (.int .u32 ux) := cellA HX 1; have x2 : w6.cell? ⟨gX, 2, none⟩ = some (.slice Ax d.length cx) := cellA HX 2; have x3 : w6.cell? ⟨gX, 3, none⟩ = some (.int .u8 sx) := cellA HX 3; have i0 : w6.cell? ⟨gI, 0, none⟩ = some (.int .u32 st) := cellA HI 0; have i1 : w6.cell? ⟨gI, 1, none⟩ = some (.slice S n c) := cellA HI 1
  go_upto_region 6 with fail
  go_wp2_with (first | (refine cellStore ?_ 22 _ _ rfl gI 0 rfl (.int .u32 (ux : Int)) rfl rfl rfl HI.out (by show 0 < 2; decide) infoU32 ?_; exact rfl; intro w7 ha ho; replace HI : Hid (w7.heap[gI]? = some (.cells (imA ux S n c) 25 (0, 0))) := Lib.hid ha; replace HT := keepAo HT HTI.out ho; replace HB := keepBo HB HGI.out ho; have i0 : w7.cell? ⟨gI, 0, none⟩ = some (.int .u32 ux) := cellA HI 0; have i1 : w7.cell? ⟨gI, 1, none⟩ = some (.slice S n c) := cellA HI 1; clear ha ho) | (refine rowStore ?_ 25 _ _ rfl gT rfl (imA ux S n c) rfl HT.out infoIm rfl (imA_one _ _ _ _) ?_; exact rfl; intro w9 ha ho; replace HT := Lib.hid ha; skip; replace HB := keepBo HB HGT.out ho; clear ha ho))
  exact bodyPost_ret (res1c rfl _ _ gT 25 (imA ux S n c) (0, 0) _ rfl HT.out Tryd.underlying25 rfl infoIm) rfl ⟨rfl, HB.out.1⟩
set_option maxRecDepth 100000 in
set_option maxHeartbeats 1000000 in
theorem next_e (st n c : Nat) (S : Option Addr) (Wl : ByteArray) (ul nl cl sl : Nat) (Al : Option Addr) (Wx : ByteArray) (ux cx sx : Nat) (Ax : Option Addr) (d : List UInt8) (w : World) (Bx : Nat) (hO : OwnB w Bx (.slice Ax d.length cx) d) (hul : ul < 4294967296) (hux : ux < 4294967296) (hsx : sx < 256) (hnl : nl ≤ 1000000) (hd : d.length ≤ 1000000) (hn : n ≤ 1000000) (q1 : (Wl.toList == [115, 116, 97, 114, 116]) = false) (q2 : (Wx.toList == [97, 110, 100]) = false) (q3 : (Wx.toList == [115, 116, 97, 114, 116]) = false) (q4 : (Wx.toList == [115, 101, 103]) = true) (hk : ckV ux d = sx) (h64 : n = 64) : Calls Tryd.prog 33 #[.agg (imA st S n c), .agg (rdA Wl ul (.slice Al nl cl) sl), .agg (rdA Wx ux (.slice Ax d.length cx) sx)] w fun e w' => e = .returned (.tuple #[.agg (imA st S n c), .int .i64 4]) ∧ Below w.heap.size w w' := by
  have HB := startB w
  have HO := Lib.hid hO
  clear hO
  have HCK := Lib.hid hk
  clear hk
  have n1 : ((n : Int) == 64) = true := beq_iff_eq.2 (by omega)
  clear h64
  go_enter Tryd.func33, Tryd.ntmps33
  go_upto_region 1 with (first | (refine wlBox ?_ 25 _ rfl (imA st S n c) rfl ?_; exact rfl; intro gI w1 hg hl ha hb; replace HB := keepB HB hb; replace HO := keepOB HO hb; have HI := Lib.hid ha; have HGI : Hid (w.heap.size ≤ gI) := Lib.hid hg; clear ha hb hg hl) | (refine wlBox ?_ 68 _ rfl (rdA Wl ul (.slice Al nl cl) sl) rfl ?_; exact rfl; intro gL w2 hg hl ha hb; replace HB := keepB HB hb; replace HO := keepOB HO hb; have HIL : Hid (gI < gL) := Lib.hid (Nat.lt_of_lt_of_le (Array.getElem?_eq_some_iff.1 HI.out).1 hg); replace HI := keepA HI hb; have HL := Lib.hid ha; clear ha hb hg hl) | (refine wlBox ?_ 68 _ rfl (rdA Wx ux (.slice Ax d.length cx) sx) rfl ?_; exact rfl; intro gX w3 hg hl ha hb; replace HB := keepB HB hb; replace HO := keepOB HO hb; have HIX : Hid (gI < gX) := Lib.hid (Nat.lt_of_lt_of_le (Array.getElem?_eq_some_iff.1 HI.out).1 hg); replace HI := keepA HI hb; replace HL := keepA HL hb; have HX := Lib.hid ha; clear ha hb hg hl) | (refine wlAlloc ?_ 25 rfl (imA 0 none 0 0) zeroIm ?_; exact rfl; intro gT w4 hg hl ha hb; have HGT : Hid (w.heap.size ≤ gT) := Lib.hid (Nat.le_trans HB.out.2 hg); have HTX : Hid (gI < gT) := Lib.hid (Nat.lt_of_lt_of_le (Array.getElem?_eq_some_iff.1 HI.out).1 hg); have HTI : Hid (gT ≠ gI) := Lib.hid (Nat.ne_of_gt (Nat.lt_of_lt_of_le (Array.getElem?_eq_some_iff.1 HI.out).1 hg)); have HTX2 : Hid (gT ≠ gX) := Lib.hid (Nat.ne_of_gt (Nat.lt_of_lt_of_le (Array.getElem?_eq_some_iff.1 HX.out).1 hg)); replace HB := keepB HB hb; replace HO := keepOB HO hb; replace HI := keepA HI hb; replace HL := keepA HL hb; replace HX := keepA HX hb; have HT := Lib.hid ha; have l0 : w4.cell? ⟨gL, 0, none⟩ = some (.string Wl) := cellA HL 0; have l1 : w4.cell? ⟨gL, 1, none⟩ = some (.int .u32 ul) := cellA HL 1; have l2 : w4.cell? ⟨gL, 2, none⟩ = some (.slice Al nl cl) := cellA HL 2; have l3 : w4.cell? ⟨gL, 3, none⟩ = some (.int .u8 sl) := cellA HL 3; have x0 : w4.cell? ⟨gX, 0, none⟩ = some (.string Wx) := cellA HX 0; have x1 : w4.cell? ⟨gX, 1, none⟩ = some (.int .u32 ux) := cellA HX 1; have x2 : w4.cell? ⟨gX, 2, none⟩ = some (.slice Ax d.length cx) := cellA HX 2; have x3 : w4.cell? ⟨gX, 3, none⟩ = some (.int .u8 sx) := cellA HX 3; have i0 : w4.cell? ⟨gI, 0, none⟩ = some (.int .u32 st) := cellA HI 0; have i1 : w4.cell? ⟨gI, 1, none⟩ = some (.slice S n c) := cellA HI 1; clear ha hb hg hl))
  go_wp2
  replace HB := keepB1 HB
  replace HO := Lib.hid (ownk_drew HO.out 1)
  replace HI := keepA1 HI
  replace HL := keepA1 HL
  replace HX := keepA1 HX
  replace HT := keepA1 HT
  refine rgStart (S := (fun w' => w'.heap[gX]? = some (.cells (rdA Wx ux (.slice Ax d.length cx) sx) 68 (0, 0)))) (n := 9) #[false, false, false, false, false, false, false, false, false] (by kernel_rfl) rfl rfl HX.out (fun hHeld => ?_)
  refine rgTake (i := 0) (N := some 26) (oi := { dst := some 26, op := Op.fieldAddr 68 (Operand.tmp 5) 1, type := 0, pos := "rom.go:167", after := #[], guard := none }) (v := ?_) #[true, false, false, false, false, false, false, false, false] rfl rfl (by kernel_rfl) (fun _ _ _ h => h) (Or.inl ⟨by rfl, ?_⟩) hHeld ?_
  rotate_left
  · intro w' hSw; (try dsimp only at hSw); (have x1 : w'.cell? ⟨gX, 1, none⟩ = some (.int .u32 ux) := cellA (Lib.hid hSw) 1; have x2 : w'.cell? ⟨gX, 2, none⟩ = some (.slice Ax d.length cx) := cellA (Lib.hid hSw) 2; have x3 : w'.cell? ⟨gX, 3, none⟩ = some (.int .u8 sx) := cellA (Lib.hid hSw) 3; clear hSw); go_simp; try with_reducible rfl
  simp only [Act.put, List.setIfInBounds_toArray, List.set_cons_zero, List.set_cons_succ]
  refine rgTake (i := 1) (N := some 27) (oi := { dst := some 27, op := Op.load 22 (Operand.tmp 26), type := 22, pos := "rom.go:167", after := #[{ on := 0, ground := Ground.data }], guard := none }) (v := ?_) #[true, true, false, false, false, false, false, false, false] rfl rfl (by kernel_rfl) (fun _ _ _ h => h) (Or.inl ⟨by rfl, ?_⟩) hHeld ?_
  rotate_left
  · intro w' hSw; (try dsimp only at hSw); (have x1 : w'.cell? ⟨gX, 1, none⟩ = some (.int .u32 ux) := cellA (Lib.hid hSw) 1; have x2 : w'.cell? ⟨gX, 2, none⟩ = some (.slice Ax d.length cx) := cellA (Lib.hid hSw) 2; have x3 : w'.cell? ⟨gX, 3, none⟩ = some (.int .u8 sx) := cellA (Lib.hid hSw) 3; clear hSw); go_simp; try with_reducible rfl
  simp only [Act.put, List.setIfInBounds_toArray, List.set_cons_zero, List.set_cons_succ]
  refine rgTake (i := 2) (N := some 28) (oi := { dst := some 28, op := Op.fieldAddr 68 (Operand.tmp 5) 2, type := 0, pos := "rom.go:167", after := #[], guard := none }) (v := ?_) #[true, true, true, false, false, false, false, false, false] rfl rfl (by kernel_rfl) (fun _ _ _ h => h) (Or.inl ⟨by rfl, ?_⟩) hHeld ?_
  rotate_left
  · intro w' hSw; (try dsimp only at hSw); (have x1 : w'.cell? ⟨gX, 1, none⟩ = some (.int .u32 ux) := cellA (Lib.hid hSw) 1; have x2 : w'.cell? ⟨gX, 2, none⟩ = some (.slice Ax d.length cx) := cellA (Lib.hid hSw) 2; have x3 : w'.cell? ⟨gX, 3, none⟩ = some (.int .u8 sx) := cellA (Lib.hid hSw) 3; clear hSw); go_simp; try with_reducible rfl
  simp only [Act.put, List.setIfInBounds_toArray, List.set_cons_zero, List.set_cons_succ]
  refine rgTake (i := 3) (N := some 29) (oi := { dst := some 29, op := Op.load 26 (Operand.tmp 28), type := 26, pos := "rom.go:167", after := #[{ on := 2, ground := Ground.data }], guard := none }) (v := ?_) #[true, true, true, true, false, false, false, false, false] rfl rfl (by kernel_rfl) (fun _ _ _ h => h) (Or.inl ⟨by rfl, ?_⟩) hHeld ?_
  rotate_left
  · intro w' hSw; (try dsimp only at hSw); (have x1 : w'.cell? ⟨gX, 1, none⟩ = some (.int .u32 ux) := cellA (Lib.hid hSw) 1; have x2 : w'.cell? ⟨gX, 2, none⟩ = some (.slice Ax d.length cx) := cellA (Lib.hid hSw) 2; have x3 : w'.cell? ⟨gX, 3, none⟩ = some (.int .u8 sx) := cellA (Lib.hid hSw) 3; clear hSw); go_simp; try with_reducible rfl
  simp only [Act.put, List.setIfInBounds_toArray, List.set_cons_zero, List.set_cons_succ]
  refine rgTake (i := 5) (N := some 31) (oi := { dst := some 31, op := Op.fieldAddr 68 (Operand.tmp 5) 3, type := 0, pos := "rom.go:167", after := #[], guard := none }) (v := ?_) #[true, true, true, true, false, true, false, false, false] rfl rfl (by kernel_rfl) (fun _ _ _ h => h) (Or.inl ⟨by rfl, ?_⟩) hHeld ?_
  rotate_left
  · intro w' hSw; (try dsimp only at hSw); (have x1 : w'.cell? ⟨gX, 1, none⟩ = some (.int .u32 ux) := cellA (Lib.hid hSw) 1; have x2 : w'.cell? ⟨gX, 2, none⟩ = some (.slice Ax d.length cx) := cellA (Lib.hid hSw) 2; have x3 : w'.cell? ⟨gX, 3, none⟩ = some (.int .u8 sx) := cellA (Lib.hid hSw) 3; clear hSw); go_simp; try with_reducible rfl
  simp only [Act.put, List.setIfInBounds_toArray, List.set_cons_zero, List.set_cons_succ]
  refine rgTake (i := 6) (N := some 32) (oi := { dst := some 32, op := Op.load 5 (Operand.tmp 31), type := 5, pos := "rom.go:167", after := #[{ on := 5, ground := Ground.data }], guard := none }) (v := ?_) #[true, true, true, true, false, true, true, false, false] rfl rfl (by kernel_rfl) (fun _ _ _ h => h) (Or.inl ⟨by rfl, ?_⟩) hHeld ?_
  rotate_left
  · intro w' hSw; (try dsimp only at hSw); (have x1 : w'.cell? ⟨gX, 1, none⟩ = some (.int .u32 ux) := cellA (Lib.hid hSw) 1; have x2 : w'.cell? ⟨gX, 2, none⟩ = some (.slice Ax d.length cx) := cellA (Lib.hid hSw) 2; have x3 : w'.cell? ⟨gX, 3, none⟩ = some (.int .u8 sx) := cellA (Lib.hid hSw) 3; clear hSw); go_simp; try with_reducible rfl
  simp only [Act.put, List.setIfInBounds_toArray, List.set_cons_zero, List.set_cons_succ]
  refine rgCall (i := 4) (N := some 30) (oi := { dst := some 30, op := Op.call { callee := Callee.value (Operand.func 42), args := #[Operand.tmp 27, Operand.tmp 29], argTypes := #[22, 26] }, type := 5, pos := "rom.go:167", after := #[{ on := 1, ground := Ground.data }, { on := 3, ground := Ground.data }], guard := none }) #[true, true, true, true, true, true, true, false, false] rfl rfl (by kernel_rfl) (fun K hK => ?_)
  go_simp
  (go_at_call 42; refine (cks_own ux cx Ax d _ hux HO.out hd).mono ?_; rw [HCK.out]; rintro e w6 ⟨rfl, hb⟩; replace HB := keepB HB hb; replace HO := keepOB HO hb; replace HI := keepA HI hb; replace HL := keepA HL hb; replace HX := keepA HX hb; replace HT := keepA HT hb; clear hb)
  refine hK.out _ _ HX.out (fun hHeld => ?_)
  (try simp only [Act.put, List.setIfInBounds_toArray, List.set_cons_zero, List.set_cons_succ])
  clear hK K
  refine rgTake (i := 7) (N := some 33) (oi := { dst := some 33, op := Op.binOp BinOp.neq 5 (Operand.tmp 30) (Operand.tmp 32) 5, type := 4, pos := "rom.go:167", after := #[{ on := 4, ground := Ground.data }, { on := 6, ground := Ground.data }], guard := none }) (v := ?_) #[true, true, true, true, true, true, true, true, false] rfl rfl (by kernel_rfl) (fun _ _ _ h => h) (Or.inl ⟨by rfl, ?_⟩) hHeld ?_
  rotate_left
  · intro w' hSw; (try dsimp only at hSw); (have x1 : w'.cell? ⟨gX, 1, none⟩ = some (.int .u32 ux) := cellA (Lib.hid hSw) 1; have x2 : w'.cell? ⟨gX, 2, none⟩ = some (.slice Ax d.length cx) := cellA (Lib.hid hSw) 2; have x3 : w'.cell? ⟨gX, 3, none⟩ = some (.int .u8 sx) := cellA (Lib.hid hSw) 3; clear hSw); go_simp; try with_reducible rfl
  simp only [Act.put, List.setIfInBounds_toArray, List.set_cons_zero, List.set_cons_succ]
  refine rgTake (i := 8) (N := some 25) (oi := { dst := some 25, op := Op.assign (Operand.tmp 33), type := 4, pos := "rom.go:167", after := #[{ on := 7, ground := Ground.data }, { on := 4, ground := Ground.chain }], guard := none }) (v := ?_) #[true, true, true, true, true, true, true, true, true] rfl rfl (by kernel_rfl) (fun _ _ _ h => h) (Or.inl ⟨by rfl, ?_⟩) hHeld ?_
  rotate_left
  · intro w' hSw; (try dsimp only at hSw); (have x1 : w'.cell? ⟨gX, 1, none⟩ = some (.int .u32 ux) := cellA (Lib.hid hSw) 1; have x2 : w'.cell? ⟨gX, 2, none⟩ = some (.slice Ax d.length cx) := cellA (Lib.hid hSw) 2; have x3 : w'.cell? ⟨gX, 3, none⟩ = some (.int .u8 sx) := cellA (Lib.hid hSw) 3; clear hSw); go_simp; try with_reducible rfl
  simp only [Act.put, List.setIfInBounds_toArray, List.set_cons_zero, List.set_cons_succ]
  refine rgDone (by kernel_rfl) ?_ _
  have l0 : w6.cell? ⟨gL, 0, none⟩ = some (.string Wl) := cellA HL 0; have l1 : w6.cell? ⟨gL, 1, none⟩ = some (.int .u32 ul) := cellA HL 1; have l2 : w6.cell? ⟨gL, 2, none⟩ = some (.slice Al nl cl) := cellA HL 2; have l3 : w6.cell? ⟨gL, 3, none⟩ = some (.int .u8 sl) := cellA HL 3; have x0 : w6.cell? ⟨gX, 0, none⟩ = some (.string Wx) := cellA HX 0; have x1 : w6.cell? ⟨gX, 1, none⟩ = some (.int .u32 ux) := cellA HX 1; have x2 : w6.cell? ⟨gX, 2, none⟩ = some (.slice Ax d.length cx) := cellA HX 2; have x3 : w6.cell? ⟨gX, 3, none⟩ = some (.int .u8 sx) := cellA HX 3; have i0 : w6.cell? ⟨gI, 0, none⟩ = some (.int .u32 st) := cellA HI 0; have i1 : w6.cell? ⟨gI, 1, none⟩ = some (.slice S n c) := cellA HI 1
  go_upto_region 9 with fail
  go_wp2_with (refine rowStore ?_ 25 _ _ rfl gT rfl (imA st S n c) rfl HT.out infoIm rfl (imA_one _ _ _ _) ?_; exact rfl; intro w9 ha ho; replace HT := Lib.hid ha; skip; replace HB := keepBo HB HGT.out ho; clear ha ho)
  exact bodyPost_ret (res1c rfl _ _ gT 25 (imA st S n c) (0, 0) _ rfl HT.out Tryd.underlying25 rfl infoIm) rfl ⟨rfl, HB.out.1⟩
set_option maxRecDepth 100000 in
set_option maxHeartbeats 1000000 in
theorem next_f1 (st n c : Nat) (S : Option Addr) (Wl : ByteArray) (ul nl cl sl : Nat) (Al : Option Addr) (Wx : ByteArray) (ux cx sx : Nat) (Ax : Option Addr) (d : List UInt8) (w : World) (Bx : Nat) (hO : OwnB w Bx (.slice Ax d.length cx) d) (hul : ul < 4294967296) (hux : ux < 4294967296) (hsx : sx < 256) (hnl : nl ≤ 1000000) (hd : d.length ≤ 1000000) (hn : n ≤ 1000000) (q1 : (Wl.toList == [115, 116, 97, 114, 116]) = false) (q2 : (Wx.toList == [97, 110, 100]) = false) (q3 : (Wx.toList == [115, 116, 97, 114, 116]) = false) (q4 : (Wx.toList == [115, 101, 103]) = true) (hk : ckV ux d = sx) (h64 : n ≠ 64) (hr : 16384 < ux + d.length) : Calls Tryd.prog 33 #[.agg (imA st S n c), .agg (rdA Wl ul (.slice Al nl cl) sl), .agg (rdA Wx ux (.slice Ax d.length cx) sx)] w fun e w' => e = .returned (.tuple #[.agg (imA st S n c), .int .i64 3]) ∧ Below w.heap.size w w' := by
  have HB := startB w
  have HO := Lib.hid hO
  clear hO
  have HCK := Lib.hid hk
  clear hk
  have n1 : ((n : Int) == 64) = false := beq_eq_false_iff_ne.2 (by omega)
  clear h64
  go_enter Tryd.func33, Tryd.ntmps33
  go_upto_region 1 with (first | (refine wlBox ?_ 25 _ rfl (imA st S n c) rfl ?_; exact rfl; intro gI w1 hg hl ha hb; replace HB := keepB HB hb; replace HO := keepOB HO hb; have HI := Lib.hid ha; have HGI : Hid (w.heap.size ≤ gI) := Lib.hid hg; clear ha hb hg hl) | (refine wlBox ?_ 68 _ rfl (rdA Wl ul (.slice Al nl cl) sl) rfl ?_; exact rfl; intro gL w2 hg hl ha hb; replace HB := keepB HB hb; replace HO := keepOB HO hb; have HIL : Hid (gI < gL) := Lib.hid (Nat.lt_of_lt_of_le (Array.getElem?_eq_some_iff.1 HI.out).1 hg); replace HI := keepA HI hb; have HL := Lib.hid ha; clear ha hb hg hl) | (refine wlBox ?_ 68 _ rfl (rdA Wx ux (.slice Ax d.length cx) sx) rfl ?_; exact rfl; intro gX w3 hg hl ha hb; replace HB := keepB HB hb; replace HO := keepOB HO hb; have HIX : Hid (gI < gX) := Lib.hid (Nat.lt_of_lt_of_le (Array.getElem?_eq_some_iff.1 HI.out).1 hg); replace HI := keepA HI hb; replace HL := keepA HL hb; have HX := Lib.hid ha; clear ha hb hg hl) | (refine wlAlloc ?_ 25 rfl (imA 0 none 0 0) zeroIm ?_; exact rfl; intro gT w4 hg hl ha hb; have HGT : Hid (w.heap.size ≤ gT) := Lib.hid (Nat.le_trans HB.out.2 hg); have HTX : Hid (gI < gT) := Lib.hid (Nat.lt_of_lt_of_le (Array.getElem?_eq_some_iff.1 HI.out).1 hg); have HTI : Hid (gT ≠ gI) := Lib.hid (Nat.ne_of_gt (Nat.lt_of_lt_of_le (Array.getElem?_eq_some_iff.1 HI.out).1 hg)); have HTX2 : Hid (gT ≠ gX) := Lib.hid (Nat.ne_of_gt (Nat.lt_of_lt_of_le (Array.getElem?_eq_some_iff.1 HX.out).1 hg)); replace HB := keepB HB hb; replace HO := keepOB HO hb; replace HI := keepA HI hb; replace HL := keepA HL hb; replace HX := keepA HX hb; have HT := Lib.hid ha; have l0 : w4.cell? ⟨gL, 0, none⟩ = some (.string Wl) := cellA HL 0; have l1 : w4.cell? ⟨gL, 1, none⟩ = some (.int .u32 ul) := cellA HL 1; have l2 : w4.cell? ⟨gL, 2, none⟩ = some (.slice Al nl cl) := cellA HL 2; have l3 : w4.cell? ⟨gL, 3, none⟩ = some (.int .u8 sl) := cellA HL 3; have x0 : w4.cell? ⟨gX, 0, none⟩ = some (.string Wx) := cellA HX 0; have x1 : w4.cell? ⟨gX, 1, none⟩ = some (.int .u32 ux) := cellA HX 1; have x2 : w4.cell? ⟨gX, 2, none⟩ = some (.slice Ax d.length cx) := cellA HX 2; have x3 : w4.cell? ⟨gX, 3, none⟩ = some (.int .u8 sx) := cellA HX 3; have i0 : w4.cell? ⟨gI, 0, none⟩ = some (.int .u32 st) := cellA HI 0; have i1 : w4.cell? ⟨gI, 1, none⟩ = some (.slice S n c) := cellA HI 1; clear ha hb hg hl))
  go_wp2
  replace HB := keepB1 HB
  replace HO := Lib.hid (ownk_drew HO.out 1)
  replace HI := keepA1 HI
  replace HL := keepA1 HL
  replace HX := keepA1 HX
  replace HT := keepA1 HT
  refine rgStart (S := (fun w' => w'.heap[gX]? = some (.cells (rdA Wx ux (.slice Ax d.length cx) sx) 68 (0, 0)))) (n := 9) #[false, false, false, false, false, false, false, false, false] (by kernel_rfl) rfl rfl HX.out (fun hHeld => ?_)
  refine rgTake (i := 0) (N := some 26) (oi := { dst := some 26, op := Op.fieldAddr 68 (Operand.tmp 5) 1, type := 0, pos := "rom.go:167", after := #[], guard := none }) (v := ?_) #[true, false, false, false, false, false, false, false, false] rfl rfl (by kernel_rfl) (fun _ _ _ h => h) (Or.inl ⟨by rfl, ?_⟩) hHeld ?_
  rotate_left
  · intro w' hSw; (try dsimp only at hSw); (have x1 : w'.cell? ⟨gX, 1, none⟩ = some (.int .u32 ux) := cellA (Lib.hid hSw) 1; have x2 : w'.cell? ⟨gX, 2, none⟩ = some (.slice Ax d.length cx) := cellA (Lib.hid hSw) 2; have x3 : w'.cell? ⟨gX, 3, none⟩ = some (.int .u8 sx) := cellA (Lib.hid hSw) 3; clear hSw); go_simp; try with_reducible rfl
  simp only [Act.put, List.setIfInBounds_toArray, List.set_cons_zero, List.set_cons_succ]
  refine rgTake (i := 1) (N := some 27) (oi := { dst := some 27, op := Op.load 22 (Operand.tmp 26), type := 22, pos := "rom.go:167", after := #[{ on := 0, ground := Ground.data }], guard := none }) (v := ?_) #[true, true, false, false, false, false, false, false, false] rfl rfl (by kernel_rfl) (fun _ _ _ h => h) (Or.inl ⟨by rfl, ?_⟩) hHeld ?_
  rotate_left
  · intro w' hSw; (try dsimp only at hSw); (have x1 : w'.cell? ⟨gX, 1, none⟩ = some (.int .u32 ux) := cellA (Lib.hid hSw) 1; have x2 : w'.cell? ⟨gX, 2, none⟩ = some (.slice Ax d.length cx) := cellA (Lib.hid hSw) 2; have x3 : w'.cell? ⟨gX, 3, none⟩ = some (.int .u8 sx) := cellA (Lib.hid hSw) 3; clear hSw); go_simp; try with_reducible rfl
  simp only [Act.put, List.setIfInBounds_toArray, List.set_cons_zero, List.set_cons_succ]
  refine rgTake (i := 2) (N := some 28) (oi := { dst := some 28, op := Op.fieldAddr 68 (Operand.tmp 5) 2, type := 0, pos := "rom.go:167", after := #[], guard := none }) (v := ?_) #[true, true, true, false, false, false, false, false, false] rfl rfl (by kernel_rfl) (fun _ _ _ h => h) (Or.inl ⟨by rfl, ?_⟩) hHeld ?_
  rotate_left
  · intro w' hSw; (try dsimp only at hSw); (have x1 : w'.cell? ⟨gX, 1, none⟩ = some (.int .u32 ux) := cellA (Lib.hid hSw) 1; have x2 : w'.cell? ⟨gX, 2, none⟩ = some (.slice Ax d.length cx) := cellA (Lib.hid hSw) 2; have x3 : w'.cell? ⟨gX, 3, none⟩ = some (.int .u8 sx) := cellA (Lib.hid hSw) 3; clear hSw); go_simp; try with_reducible rfl
  simp only [Act.put, List.setIfInBounds_toArray, List.set_cons_zero, List.set_cons_succ]
  refine rgTake (i := 3) (N := some 29) (oi := { dst := some 29, op := Op.load 26 (Operand.tmp 28), type := 26, pos := "rom.go:167", after := #[{ on := 2, ground := Ground.data }], guard := none }) (v := ?_) #[true, true, true, true, false, false, false, false, false] rfl rfl (by kernel_rfl) (fun _ _ _ h => h) (Or.inl ⟨by rfl, ?_⟩) hHeld ?_
  rotate_left
  · intro w' hSw; (try dsimp only at hSw); (have x1 : w'.cell? ⟨gX, 1, none⟩ = some (.int .u32 ux) := cellA (Lib.hid hSw) 1; have x2 : w'.cell? ⟨gX, 2, none⟩ = some (.slice Ax d.length cx) := cellA (Lib.hid hSw) 2; have x3 : w'.cell? ⟨gX, 3, none⟩ = some (.int .u8 sx) := cellA (Lib.hid hSw) 3; clear hSw); go_simp; try with_reducible rfl
  simp only [Act.put, List.setIfInBounds_toArray, List.set_cons_zero, List.set_cons_succ]
  refine rgTake (i := 5) (N := some 31) (oi := { dst := some 31, op := Op.fieldAddr 68 (Operand.tmp 5) 3, type := 0, pos := "rom.go:167", after := #[], guard := none }) (v := ?_) #[true, true, true, true, false, true, false, false, false] rfl rfl (by kernel_rfl) (fun _ _ _ h => h) (Or.inl ⟨by rfl, ?_⟩) hHeld ?_
  rotate_left
  · intro w' hSw; (try dsimp only at hSw); (have x1 : w'.cell? ⟨gX, 1, none⟩ = some (.int .u32 ux) := cellA (Lib.hid hSw) 1; have x2 : w'.cell? ⟨gX, 2, none⟩ = some (.slice Ax d.length cx) := cellA (Lib.hid hSw) 2; have x3 : w'.cell? ⟨gX, 3, none⟩ = some (.int .u8 sx) := cellA (Lib.hid hSw) 3; clear hSw); go_simp; try with_reducible rfl
  simp only [Act.put, List.setIfInBounds_toArray, List.set_cons_zero, List.set_cons_succ]
  refine rgTake (i := 6) (N := some 32) (oi := { dst := some 32, op := Op.load 5 (Operand.tmp 31), type := 5, pos := "rom.go:167", after := #[{ on := 5, ground := Ground.data }], guard := none }) (v := ?_) #[true, true, true, true, false, true, true, false, false] rfl rfl (by kernel_rfl) (fun _ _ _ h => h) (Or.inl ⟨by rfl, ?_⟩) hHeld ?_
  rotate_left
  · intro w' hSw; (try dsimp only at hSw); (have x1 : w'.cell? ⟨gX, 1, none⟩ = some (.int .u32 ux) := cellA (Lib.hid hSw) 1; have x2 : w'.cell? ⟨gX, 2, none⟩ = some (.slice Ax d.length cx) := cellA (Lib.hid hSw) 2; have x3 : w'.cell? ⟨gX, 3, none⟩ = some (.int .u8 sx) := cellA (Lib.hid hSw) 3; clear hSw); go_simp; try with_reducible rfl
  simp only [Act.put, List.setIfInBounds_toArray, List.set_cons_zero, List.set_cons_succ]
  refine rgCall (i := 4) (N := some 30) (oi := { dst := some 30, op := Op.call { callee := Callee.value (Operand.func 42), args := #[Operand.tmp 27, Operand.tmp 29], argTypes := #[22, 26] }, type := 5, pos := "rom.go:167", after := #[{ on := 1, ground := Ground.data }, { on := 3, ground := Ground.data }], guard := none }) #[true, true, true, true, true, true, true, false, false] rfl rfl (by kernel_rfl) (fun K hK => ?_)
  go_simp
  (go_at_call 42; refine (cks_own ux cx Ax d _ hux HO.out hd).mono ?_; rw [HCK.out]; rintro e w6 ⟨rfl, hb⟩; replace HB := keepB HB hb; replace HO := keepOB HO hb; replace HI := keepA HI hb; replace HL := keepA HL hb; replace HX := keepA HX hb; replace HT := keepA HT hb; clear hb)
  refine hK.out _ _ HX.out (fun hHeld => ?_)
  (try simp only [Act.put, List.setIfInBounds_toArray, List.set_cons_zero, List.set_cons_succ])
  clear hK K
  refine rgTake (i := 7) (N := some 33) (oi := { dst := some 33, op := Op.binOp BinOp.neq 5 (Operand.tmp 30) (Operand.tmp 32) 5, type := 4, pos := "rom.go:167", after := #[{ on := 4, ground := Ground.data }, { on := 6, ground := Ground.data }], guard := none }) (v := ?_) #[true, true, true, true, true, true, true, true, false] rfl rfl (by kernel_rfl) (fun _ _ _ h => h) (Or.inl ⟨by rfl, ?_⟩) hHeld ?_
  rotate_left
  · intro w' hSw; (try dsimp only at hSw); (have x1 : w'.cell? ⟨gX, 1, none⟩ = some (.int .u32 ux) := cellA (Lib.hid hSw) 1; have x2 : w'.cell? ⟨gX, 2, none⟩ = some (.slice Ax d.length cx) := cellA (Lib.hid hSw) 2; have x3 : w'.cell? ⟨gX, 3, none⟩ = some (.int .u8 sx) := cellA (Lib.hid hSw) 3; clear hSw); go_simp; try with_reducible rfl
  simp only [Act.put, List.setIfInBounds_toArray, List.set_cons_zero, List.set_cons_succ]
  refine rgTake (i := 8) (N := some 25) (oi := { dst := some 25, op := Op.assign (Operand.tmp 33), type := 4, pos := "rom.go:167", after := #[{ on := 7, ground := Ground.data }, { on := 4, ground := Ground.chain }], guard := none }) (v := ?_) #[true, true, true, true, true, true, true, true, true] rfl rfl (by kernel_rfl) (fun _ _ _ h => h) (Or.inl ⟨by rfl, ?_⟩) hHeld ?_
  rotate_left
  · intro w' hSw; (try dsimp only at hSw); (have x1 : w'.cell? ⟨gX, 1, none⟩ = some (.int .u32 ux) := cellA (Lib.hid hSw) 1; have x2 : w'.cell? ⟨gX, 2, none⟩ = some (.slice Ax d.length cx) := cellA (Lib.hid hSw) 2; have x3 : w'.cell? ⟨gX, 3, none⟩ = some (.int .u8 sx) := cellA (Lib.hid hSw) 3; clear hSw); go_simp; try with_reducible rfl
  simp only [Act.put, List.setIfInBounds_toArray, List.set_cons_zero, List.set_cons_succ]
  refine rgDone (by kernel_rfl) ?_ _
  have l0 : w6.cell? ⟨gL, 0, none⟩ = some (.string Wl) := cellA HL 0; have l1 : w6.cell? ⟨gL, 1, none⟩ = some (.int .u32 ul) := cellA HL 1; have l2 : w6.cell? ⟨gL, 2, none⟩ = some (.slice Al nl cl) := cellA HL 2; have l3 : w6.cell? ⟨gL, 3, none⟩ = some (.int .u8 sl) := cellA HL 3; have x0 : w6.cell? ⟨gX, 0, none⟩ = some (.string Wx) := cellA HX 0; have x1 : w6.cell? ⟨gX, 1, none⟩ = some (.int .u32 ux) := cellA HX 1; have x2 : w6.cell? ⟨gX, 2, none⟩ = some (.slice Ax d.length cx) := cellA HX 2; have x3 : w6.cell? ⟨gX, 3, none⟩ = some (.int .u8 sx) := cellA HX 3; have i0 : w6.cell? ⟨gI, 0, none⟩ = some (.int .u32 st) := cellA HI 0; have i1 : w6.cell? ⟨gI, 1, none⟩ = some (.slice S n c) := cellA HI 1
  go_upto_region 11 with fail
  go_wp2_with (refine rowStore ?_ 25 _ _ rfl gT rfl (imA st S n c) rfl HT.out infoIm rfl (imA_one _ _ _ _) ?_; exact rfl; intro w9 ha ho; replace HT := Lib.hid ha; skip; replace HB := keepBo HB HGT.out ho; clear ha ho)
  exact bodyPost_ret (res1c rfl _ _ gT 25 (imA st S n c) (0, 0) _ rfl HT.out Tryd.underlying25 rfl infoIm) rfl ⟨rfl, HB.out.1⟩
set_option maxRecDepth 100000 in
set_option maxHeartbeats 1000000 in
theorem next_f2 (st n c : Nat) (S : Option Addr) (Wl : ByteArray) (ul nl cl sl : Nat) (Al : Option Addr) (Wx : ByteArray) (ux cx sx : Nat) (Ax : Option Addr) (d : List UInt8) (w : World) (Bx : Nat) (hO : OwnB w Bx (.slice Ax d.length cx) d) (hul : ul < 4294967296) (hux : ux < 4294967296) (hsx : sx < 256) (hnl : nl ≤ 1000000) (hd : d.length ≤ 1000000) (hn : n ≤ 1000000) (q1 : (Wl.toList == [115, 116, 97, 114, 116]) = false) (q2 : (Wx.toList == [97, 110, 100]) = true) (q3 : (Wx.toList == [115, 116, 97, 114, 116]) = false) (q4 : (Wx.toList == [115, 101, 103]) = false) (hg : true = decide (Wl.toList ≠ [] ∧ nl = 16 ∧ ul + 16 = ux)) (hk : ckV ux d = sx) (hr : 16384 < ux + d.length) : Calls Tryd.prog 33 #[.agg (imA st S n c), .agg (rdA Wl ul (.slice Al nl cl) sl), .agg (rdA Wx ux (.slice Ax d.length cx) sx)] w fun e w' => e = .returned (.tuple #[.agg (imA st S n c), .int .i64 3]) ∧ Below w.heap.size w w' := by
  have HB := startB w
  have HO := Lib.hid hO
  clear hO
  have HG : Hid (∀ w, Calls Tryd.prog 46 #[.agg (rdA Wl ul (.slice Al nl cl) sl), .agg (rdA Wx ux (.slice Ax d.length cx) sx)] w fun e w' => e = .returned (.bool true) ∧ Below w.heap.size w w') := Lib.hid (fun w => goes_any Wl Wx ul ux nl d.length cl cx sl sx Al Ax w true hg hul hux hnl)
  clear hg
  have HCK := Lib.hid hk
  clear hk
  go_enter Tryd.func33, Tryd.ntmps33
  go_upto_region 1 with (first | (refine wlBox ?_ 25 _ rfl (imA st S n c) rfl ?_; exact rfl; intro gI w1 hg hl ha hb; replace HB := keepB HB hb; replace HO := keepOB HO hb; have HI := Lib.hid ha; have HGI : Hid (w.heap.size ≤ gI) := Lib.hid hg; clear ha hb hg hl) | (refine wlBox ?_ 68 _ rfl (rdA Wl ul (.slice Al nl cl) sl) rfl ?_; exact rfl; intro gL w2 hg hl ha hb; replace HB := keepB HB hb; replace HO := keepOB HO hb; have HIL : Hid (gI < gL) := Lib.hid (Nat.lt_of_lt_of_le (Array.getElem?_eq_some_iff.1 HI.out).1 hg); replace HI := keepA HI hb; have HL := Lib.hid ha; clear ha hb hg hl) | (refine wlBox ?_ 68 _ rfl (rdA Wx ux (.slice Ax d.length cx) sx) rfl ?_; exact rfl; intro gX w3 hg hl ha hb; replace HB := keepB HB hb; replace HO := keepOB HO hb; have HIX : Hid (gI < gX) := Lib.hid (Nat.lt_of_lt_of_le (Array.getElem?_eq_some_iff.1 HI.out).1 hg); replace HI := keepA HI hb; replace HL := keepA HL hb; have HX := Lib.hid ha; clear ha hb hg hl) | (refine wlAlloc ?_ 25 rfl (imA 0 none 0 0) zeroIm ?_; exact rfl; intro gT w4 hg hl ha hb; have HGT : Hid (w.heap.size ≤ gT) := Lib.hid (Nat.le_trans HB.out.2 hg); have HTX : Hid (gI < gT) := Lib.hid (Nat.lt_of_lt_of_le (Array.getElem?_eq_some_iff.1 HI.out).1 hg); have HTI : Hid (gT ≠ gI) := Lib.hid (Nat.ne_of_gt (Nat.lt_of_lt_of_le (Array.getElem?_eq_some_iff.1 HI.out).1 hg)); have HTX2 : Hid (gT ≠ gX) := Lib.hid (Nat.ne_of_gt (Nat.lt_of_lt_of_le (Array.getElem?_eq_some_iff.1 HX.out).1 hg)); replace HB := keepB HB hb; replace HO := keepOB HO hb; replace HI := keepA HI hb; replace HL := keepA HL hb; replace HX := keepA HX hb; have HT := Lib.hid ha; have l0 : w4.cell? ⟨gL, 0, none⟩ = some (.string Wl) := cellA HL 0; have l1 : w4.cell? ⟨gL, 1, none⟩ = some (.int .u32 ul) := cellA HL 1; have l2 : w4.cell? ⟨gL, 2, none⟩ = some (.slice Al nl cl) := cellA HL 2; have l3 : w4.cell? ⟨gL, 3, none⟩ = some (.int .u8 sl) := cellA HL 3; have x0 : w4.cell? ⟨gX, 0, none⟩ = some (.string Wx) := cellA HX 0; have x1 : w4.cell? ⟨gX, 1, none⟩ = some (.int .u32 ux) := cellA HX 1; have x2 : w4.cell? ⟨gX, 2, none⟩ = some (.slice Ax d.length cx) := cellA HX 2; have x3 : w4.cell? ⟨gX, 3, none⟩ = some (.int .u8 sx) := cellA HX 3; have i0 : w4.cell? ⟨gI, 0, none⟩ = some (.int .u32 st) := cellA HI 0; have i1 : w4.cell? ⟨gI, 1, none⟩ = some (.slice S n c) := cellA HI 1; clear ha hb hg hl))
  go_wp2_with (go_at_call 46; refine (HG.out _).mono ?_; rintro e w5 ⟨rfl, hb⟩; replace HB := keepB HB hb; replace HO := keepOB HO hb; replace HI := keepA HI hb; replace HL := keepA HL hb; replace HX := keepA HX hb; replace HT := keepA HT hb; have l0 : w5.cell? ⟨gL, 0, none⟩ = some (.string Wl) := cellA HL 0; have l1 : w5.cell? ⟨gL, 1, none⟩ = some (.int .u32 ul) := cellA HL 1; have l2 : w5.cell? ⟨gL, 2, none⟩ = some (.slice Al nl cl) := cellA HL 2; have l3 : w5.cell? ⟨gL, 3, none⟩ = some (.int .u8 sl) := cellA HL 3; have x0 : w5.cell? ⟨gX, 0, none⟩ = some (.string Wx) := cellA HX 0; have x1 : w5.cell? ⟨gX, 1, none⟩ = some (.int .u32 ux) := cellA HX 1; have x2 : w5.cell? ⟨gX, 2, none⟩ = some (.slice Ax d.length cx) := cellA HX 2; have x3 : w5.cell? ⟨gX, 3, none⟩ = some (.int .u8 sx) := cellA HX 3; have i0 : w5.cell? ⟨gI, 0, none⟩ = some (.int .u32 st) := cellA HI 0; have i1 : w5.cell? ⟨gI, 1, none⟩ = some (.slice S n c) := cellA HI 1; clear hb)
  replace HB := keepB1 HB
  replace HO := Lib.hid (ownk_drew HO.out 1)
  replace HI := keepA1 HI
  replace HL := keepA1 HL
  replace HX := keepA1 HX
  replace HT := keepA1 HT
  refine rgStart (S := (fun w' => w'.heap[gX]? = some (.cells (rdA Wx ux (.slice Ax d.length cx) sx) 68 (0, 0)))) (n := 9) #[false, false, false, false, false, false, false, false, false] (by kernel_rfl) rfl rfl HX.out (fun hHeld => ?_)
  refine rgTake (i := 0) (N := some 26) (oi := { dst := some 26, op := Op.fieldAddr 68 (Operand.tmp 5) 1, type := 0, pos := "rom.go:167", after := #[], guard := none }) (v := ?_) #[true, false, false, false, false, false, false, false, false] rfl rfl (by kernel_rfl) (fun _ _ _ h => h) (Or.inl ⟨by rfl, ?_⟩) hHeld ?_
  rotate_left
  · intro w' hSw; (try dsimp only at hSw); (have x1 : w'.cell? ⟨gX, 1, none⟩ = some (.int .u32 ux) := cellA (Lib.hid hSw) 1; have x2 : w'.cell? ⟨gX, 2, none⟩ = some (.slice Ax d.length cx) := cellA (Lib.hid hSw) 2; have x3 : w'.cell? ⟨gX, 3, none⟩ = some (.int .u8 sx) := cellA (Lib.hid hSw) 3; clear hSw); go_simp; try with_reducible rfl
  simp only [Act.put, List.setIfInBounds_toArray, List.set_cons_zero, List.set_cons_succ]
  refine rgTake (i := 1) (N := some 27) (oi := { dst := some 27, op := Op.load 22 (Operand.tmp 26), type := 22, pos := "rom.go:167", after := #[{ on := 0, ground := Ground.data }], guard := none }) (v := ?_) #[true, true, false, false, false, false, false, false, false] rfl rfl (by kernel_rfl) (fun _ _ _ h => h) (Or.inl ⟨by rfl, ?_⟩) hHeld ?_
  rotate_left
  · intro w' hSw; (try dsimp only at hSw); (have x1 : w'.cell? ⟨gX, 1, none⟩ = some (.int .u32 ux) := cellA (Lib.hid hSw) 1; have x2 : w'.cell? ⟨gX, 2, none⟩ = some (.slice Ax d.length cx) := cellA (Lib.hid hSw) 2; have x3 : w'.cell? ⟨gX, 3, none⟩ = some (.int .u8 sx) := cellA (Lib.hid hSw) 3; clear hSw); go_simp; try with_reducible rfl
  simp only [Act.put, List.setIfInBounds_toArray, List.set_cons_zero, List.set_cons_succ]
  refine rgTake (i := 2) (N := some 28) (oi := { dst := some 28, op := Op.fieldAddr 68 (Operand.tmp 5) 2, type := 0, pos := "rom.go:167", after := #[], guard := none }) (v := ?_) #[true, true, true, false, false, false, false, false, false] rfl rfl (by kernel_rfl) (fun _ _ _ h => h) (Or.inl ⟨by rfl, ?_⟩) hHeld ?_
  rotate_left
  · intro w' hSw; (try dsimp only at hSw); (have x1 : w'.cell? ⟨gX, 1, none⟩ = some (.int .u32 ux) := cellA (Lib.hid hSw) 1; have x2 : w'.cell? ⟨gX, 2, none⟩ = some (.slice Ax d.length cx) := cellA (Lib.hid hSw) 2; have x3 : w'.cell? ⟨gX, 3, none⟩ = some (.int .u8 sx) := cellA (Lib.hid hSw) 3; clear hSw); go_simp; try with_reducible rfl
  simp only [Act.put, List.setIfInBounds_toArray, List.set_cons_zero, List.set_cons_succ]
  refine rgTake (i := 3) (N := some 29) (oi := { dst := some 29, op := Op.load 26 (Operand.tmp 28), type := 26, pos := "rom.go:167", after := #[{ on := 2, ground := Ground.data }], guard := none }) (v := ?_) #[true, true, true, true, false, false, false, false, false] rfl rfl (by kernel_rfl) (fun _ _ _ h => h) (Or.inl ⟨by rfl, ?_⟩) hHeld ?_
  rotate_left
  · intro w' hSw; (try dsimp only at hSw); (have x1 : w'.cell? ⟨gX, 1, none⟩ = some (.int .u32 ux) := cellA (Lib.hid hSw) 1; have x2 : w'.cell? ⟨gX, 2, none⟩ = some (.slice Ax d.length cx) := cellA (Lib.hid hSw) 2; have x3 : w'.cell? ⟨gX, 3, none⟩ = some (.int .u8 sx) := cellA (Lib.hid hSw) 3; clear hSw); go_simp; try with_reducible rfl
  simp only [Act.put, List.setIfInBounds_toArray, List.set_cons_zero, List.set_cons_succ]
  refine rgTake (i := 5) (N := some 31) (oi := { dst := some 31, op := Op.fieldAddr 68 (Operand.tmp 5) 3, type := 0, pos := "rom.go:167", after := #[], guard := none }) (v := ?_) #[true, true, true, true, false, true, false, false, false] rfl rfl (by kernel_rfl) (fun _ _ _ h => h) (Or.inl ⟨by rfl, ?_⟩) hHeld ?_
  rotate_left
  · intro w' hSw; (try dsimp only at hSw); (have x1 : w'.cell? ⟨gX, 1, none⟩ = some (.int .u32 ux) := cellA (Lib.hid hSw) 1; have x2 : w'.cell? ⟨gX, 2, none⟩ = some (.slice Ax d.length cx) := cellA (Lib.hid hSw) 2; have x3 : w'.cell? ⟨gX, 3, none⟩ = some (.int .u8 sx) := cellA (Lib.hid hSw) 3; clear hSw); go_simp; try with_reducible rfl
  simp only [Act.put, List.setIfInBounds_toArray, List.set_cons_zero, List.set_cons_succ]
  refine rgTake (i := 6) (N := some 32) (oi := { dst := some 32, op := Op.load 5 (Operand.tmp 31), type := 5, pos := "rom.go:167", after := #[{ on := 5, ground := Ground.data }], guard := none }) (v := ?_) #[true, true, true, true, false, true, true, false, false] rfl rfl (by kernel_rfl) (fun _ _ _ h => h) (Or.inl ⟨by rfl, ?_⟩) hHeld ?_
  rotate_left
  · intro w' hSw; (try dsimp only at hSw); (have x1 : w'.cell? ⟨gX, 1, none⟩ = some (.int .u32 ux) := cellA (Lib.hid hSw) 1; have x2 : w'.cell? ⟨gX, 2, none⟩ = some (.slice Ax d.length cx) := cellA (Lib.hid hSw) 2; have x3 : w'.cell? ⟨gX, 3, none⟩ = some (.int .u8 sx) := cellA (Lib.hid hSw) 3; clear hSw); go_simp; try with_reducible rfl
  simp only [Act.put, List.setIfInBounds_toArray, List.set_cons_zero, List.set_cons_succ]
  refine rgCall (i := 4) (N := some 30) (oi := { dst := some 30, op := Op.call { callee := Callee.value (Operand.func 42), args := #[Operand.tmp 27, Operand.tmp 29], argTypes := #[22, 26] }, type := 5, pos := "rom.go:167", after := #[{ on := 1, ground := Ground.data }, { on := 3, ground := Ground.data }], guard := none }) #[true, true, true, true, true, true, true, false, false] rfl rfl (by kernel_rfl) (fun K hK => ?_)
  go_simp
  (go_at_call 42; refine (cks_own ux cx Ax d _ hux HO.out hd).mono ?_; rw [HCK.out]; rintro e w6 ⟨rfl, hb⟩; replace HB := keepB HB hb; replace HO := keepOB HO hb; replace HI := keepA HI hb; replace HL := keepA HL hb; replace HX := keepA HX hb; replace HT := keepA HT hb; clear hb)
  refine hK.out _ _ HX.out (fun hHeld => ?_)
  (try simp only [Act.put, List.setIfInBounds_toArray, List.set_cons_zero, List.set_cons_succ])
  clear hK K
  refine rgTake (i := 7) (N := some 33) (oi := { dst := some 33, op := Op.binOp BinOp.neq 5 (Operand.tmp 30) (Operand.tmp 32) 5, type := 4, pos := "rom.go:167", after := #[{ on := 4, ground := Ground.data }, { on := 6, ground := Ground.data }], guard := none }) (v := ?_) #[true, true, true, true, true, true, true, true, false] rfl rfl (by kernel_rfl) (fun _ _ _ h => h) (Or.inl ⟨by rfl, ?_⟩) hHeld ?_
  rotate_left
  · intro w' hSw; (try dsimp only at hSw); (have x1 : w'.cell? ⟨gX, 1, none⟩ = some (.int .u32 ux) := cellA (Lib.hid hSw) 1; have x2 : w'.cell? ⟨gX, 2, none⟩ = some (.slice Ax d.length cx) := cellA (Lib.hid hSw) 2; have x3 : w'.cell? ⟨gX, 3, none⟩ = some (.int .u8 sx) := cellA (Lib.hid hSw) 3; clear hSw); go_simp; try with_reducible rfl
  simp only [Act.put, List.setIfInBounds_toArray, List.set_cons_zero, List.set_cons_succ]
  refine rgTake (i := 8) (N := some 25) (oi := { dst := some 25, op := Op.assign (Operand.tmp 33), type := 4, pos := "rom.go:167", after := #[{ on := 7, ground := Ground.data }, { on := 4, ground := Ground.chain }], guard := none }) (v := ?_) #[true, true, true, true, true, true, true, true, true] rfl rfl (by kernel_rfl) (fun _ _ _ h => h) (Or.inl ⟨by rfl, ?_⟩) hHeld ?_
  rotate_left
  · intro w' hSw; (try dsimp only at hSw); (have x1 : w'.cell? ⟨gX, 1, none⟩ = some (.int .u32 ux) := cellA (Lib.hid hSw) 1; have x2 : w'.cell? ⟨gX, 2, none⟩ = some (.slice Ax d.length cx) := cellA (Lib.hid hSw) 2; have x3 : w'.cell? ⟨gX, 3, none⟩ = some (.int .u8 sx) := cellA (Lib.hid hSw) 3; clear hSw); go_simp; try with_reducible rfl
  simp only [Act.put, List.setIfInBounds_toArray, List.set_cons_zero, List.set_cons_succ]
  refine rgDone (by kernel_rfl) ?_ _
  have l0 : w6.cell? ⟨gL, 0, none⟩ = some (.string Wl) := cellA HL 0; have l1 : w6.cell? ⟨gL, 1, none⟩ = some (.int .u32 ul) := cellA HL 1; have l2 : w6.cell? ⟨gL, 2, none⟩ = some (.slice Al nl cl) := cellA HL 2; have l3 : w6.cell? ⟨gL, 3, none⟩ = some (.int .u8 sl) := cellA HL 3; have x0 : w6.cell? ⟨gX, 0, none⟩ = some (.string Wx) := cellA HX 0; have x1 : w6.cell? ⟨gX, 1, none⟩ = some (.int .u32 ux) := cellA HX 1; have x2 : w6.cell? ⟨gX, 2, none⟩ = some (.slice Ax d.length cx) := cellA HX 2; have x3 : w6.cell? ⟨gX, 3, none⟩ = some (.int .u8 sx) := cellA HX 3; have i0 : w6.cell? ⟨gI, 0, none⟩ = some (.int .u32 st) := cellA HI 0; have i1 : w6.cell? ⟨gI, 1, none⟩ = some (.slice S n c) := cellA HI 1
  go_upto_region 11 with fail
  go_wp2_with (refine rowStore ?_ 25 _ _ rfl gT rfl (imA st S n c) rfl HT.out infoIm rfl (imA_one _ _ _ _) ?_; exact rfl; intro w9 ha ho; replace HT := Lib.hid ha; skip; replace HB := keepBo HB HGT.out ho; clear ha ho)
  exact bodyPost_ret (res1c rfl _ _ gT 25 (imA st S n c) (0, 0) _ rfl HT.out Tryd.underlying25 rfl infoIm) rfl ⟨rfl, HB.out.1⟩
end Go.Proofs.YtnigkecpiolgeaaDoor.My
/- Words: what putting a line to an image leaves alone; the last segment's cells. -/
set_option linter.unusedVariables false
namespace Go.Proofs.YtnigkecpiolgeaaDoor.My
open Go.RowKit
def KeptO (w w' : World) : Prop := ∀ (k : Nat) (cs : Array Value) (t : TypeId) (fr : Nat × Nat), w.heap[k]? = some (.cells cs t fr) → t ≠ 5 → t ≠ 51 → w'.heap[k]? = some (.cells cs t fr)
structure Kp (B : Nat) (w w' : World) : Prop where
  below : Below B w w'
  size : B ≤ w'.heap.size
  kept : KeptO w w'
theorem Kp.of {B : Nat} {w w' : World} (h : Below w.heap.size w w') (hB : B ≤ w.heap.size) : Kp B w w' :=
  ⟨below_le h hB, Nat.le_trans hB h.size, fun k cs t fr hk _ _ => (h.block k (Array.getElem?_eq_some_iff.1 hk).1).trans hk⟩
theorem Kp.more {B : Nat} {w w1 w2 : World} (h : Kp B w w1) (hb : Below w1.heap.size w1 w2) : Kp B w w2 :=
  ⟨h.below.trans (below_le hb h.size), Nat.le_trans h.size hb.size, fun k cs t fr hk h1 h2 => by
    have := h.kept k cs t fr hk h1 h2
    exact (hb.block k (Array.getElem?_eq_some_iff.1 this).1).trans this⟩
theorem Kp.only {B g : Nat} {w w1 w2 : World} (h : Kp B w w1) (hg : w.heap.size ≤ g) (hB : B ≤ w.heap.size) (ho : Only g w1 w2) : Kp B w w2 :=
  ⟨(keepBo (Lib.hid ⟨h.below, h.size⟩) (Nat.le_trans hB hg) ho).out.1, by rw [ho.size]; exact h.size, fun k cs t fr hk h1 h2 => by
    have := h.kept k cs t fr hk h1 h2
    have hl := (Array.getElem?_eq_some_iff.1 hk).1
    exact (ho.block k (by omega)).trans this⟩
/-- A block of segments or bytes of the call's own is written. -/
theorem Kp.typed {B g : Nat} {w w1 w2 : World} (h : Kp B w w1) (hg : B ≤ g) {cs : Array Value} {t : TypeId} {fr : Nat × Nat} (hc : w1.heap[g]? = some (.cells cs t fr)) (ht : t = 5 ∨ t = 51) (ho : Only g w1 w2) : Kp B w w2 :=
  ⟨(keepBo (Lib.hid ⟨h.below, h.size⟩) hg ho).out.1, by rw [ho.size]; exact h.size, fun k cs' t' fr' hk h1 h2 => by
    have := h.kept k cs' t' fr' hk h1 h2
    refine (ho.block k fun e => ?_).trans this
    subst e
    rw [hc] at this
    injection this with this
    injection this with _ e _
    rcases ht with q | q
    · exact h1 (e ▸ q)
    · exact h2 (e ▸ q)⟩
theorem Kp.grown {B e n : Nat} {w w1 w2 : World} {v : Value} {k : Nat} {xs : List Value} (h : Kp B w w1) (hv : w1.ownsRow B e k v n xs) (ht : e = 5 ∨ e = 51) (hg : w1.grownBy w2 v.ownBlock) : Kp B w w2 :=
  ⟨(keepBw (Lib.hid ⟨h.below, h.size⟩) hg (fun j hj => (own_type hv hj).1)).out.1, Nat.le_trans h.size hg.size, fun j cs t fr hj h1 h2 => by
    have := h.kept j cs t fr hj h1 h2
    refine (hg.block j (Array.getElem?_eq_some_iff.1 this).1 fun q => ?_).trans this
    obtain ⟨_, cs', h3⟩ := own_type hv q.symm
    rw [h3] at this
    injection this with this
    injection this with _ e' _
    rcases ht with r | r
    · exact h1 (e' ▸ r)
    · exact h2 (e' ▸ r)⟩
theorem keepGrow {B e n k : Nat} {w w2 : World} {v : Value} {xs : List Value} {g : Nat} {cs : Array Value} {t : TypeId} {fr : Nat × Nat} (h : Hid (w.heap[g]? = some (.cells cs t fr))) (hv : w.ownsRow B e k v n xs) (hg : w.grownBy w2 v.ownBlock) (ht : t ≠ e) : Hid (w2.heap[g]? = some (.cells cs t fr)) := by
  refine (hg.block g (Array.getElem?_eq_some_iff.1 h.out).1 fun q => ?_).trans h.out
  obtain ⟨_, cs', h3⟩ := own_type hv q.symm
  rw [h.out] at h3
  injection h3 with h3
  injection h3 with _ e' _
  exact ht e'
theorem yieldsIdx0 {P : Program} {ops : Array Oper} {S : World → Prop} {oi : Oper} {a : Act} (hw : Region.wanted oi (yielded ops a.tmps) = true) (t : TypeId) (x y : Operand) (ho : oi.op = .indexAddr t x y) (e : TypeId) (k : Nat) (ht : P.underlying t = some (.slice e)) (hs : ∀ w, (sizeOf e).run P w = .ok k w) (b n c i : Nat) (hx : a.eval x = .slice (some ⟨b, 0, none⟩) n c) (hy : a.eval y = .int .i64 i) (hi : i < n) : YieldsIf P ops S oi (.pointer (some ⟨b, i * k, none⟩)) a := by
  have := yieldsIdx (P := P) (ops := ops) (S := S) hw t x y ho e k ht hs b 0 n c i hx hy hi
  rwa [Nat.zero_add] at this
end Go.Proofs.YtnigkecpiolgeaaDoor.My
/- Walk: a line put to an image, the program's: the ways that put it to the segments. -/
set_option linter.unusedVariables false
set_option linter.unusedSimpArgs false
namespace Go.Proofs.YtnigkecpiolgeaaDoor.My
open Go.RowKit
set_option maxRecDepth 100000 in
set_option maxHeartbeats 2000000 in
theorem next_i1 (st n c : Nat) (S : Option Addr) (Wl : ByteArray) (ul nl cl sl : Nat) (Al : Option Addr) (Wx : ByteArray) (ux cx sx : Nat) (Ax : Option Addr) (d : List UInt8) (w : World) (Bx : Nat) (hO : OwnB w Bx (.slice Ax d.length cx) d) (hul : ul < 4294967296) (hux : ux < 4294967296) (hsx : sx < 256) (hnl : nl ≤ 1000000) (hd : d.length ≤ 1000000) (hn : n ≤ 1000000) (q1 : (Wl.toList == [115, 116, 97, 114, 116]) = false) (q2 : (Wx.toList == [97, 110, 100]) = false) (q3 : (Wx.toList == [115, 116, 97, 114, 116]) = false) (q4 : (Wx.toList == [115, 101, 103]) = true) (hk : ckV ux d = sx) (B : Nat) (ms : List SegM) (hS : SegsAt w B (.slice S n c) ms) (hms : ms.length = n) (hB : B ≤ w.heap.size) (hBx : B ≤ Bx) (hap : ∀ a ∈ ms, ∀ k, (dV a).ownBlock = some k → (dV ⟨ux, Ax, cx, d⟩).ownBlock ≠ some k) (hrg : ux + d.length ≤ 16384) (h64 : n ≠ 64) (hn0 : n = 0) : Calls Tryd.prog 33 #[.agg (imA st S n c), .agg (rdA Wl ul (.slice Al nl cl) sl), .agg (rdA Wx ux (.slice Ax d.length cx) sx)] w fun e w' => ∃ S' c', e = .returned (.tuple #[.agg (imA st S' (n + 1) c'), .int .i64 0]) ∧ SegsAt w' B (.slice S' (n + 1) c') (ms ++ [⟨ux, Ax, cx, d⟩]) ∧ Kp B w w' := by
  have HB := startB w
  have HO := Lib.hid hO
  clear hO
  have HSG := Lib.hid hS
  have HN := Lib.hid hms
  have HBB := Lib.hid hB
  have HBX := Lib.hid hBx
  have HAP := Lib.hid hap
  clear hS hms hap hB hBx
  have HCK := Lib.hid hk
  clear hk
  have n1 : ((n : Int) == 64) = false := beq_eq_false_iff_ne.2 (by omega)
  clear h64
  have n0 : decide (0 < n) = false := decide_eq_false (by omega)
  have n2 : ¬ 0 < n := by omega
  have HN0 := Lib.hid hn0
  clear hn0
  go_enter Tryd.func33, Tryd.ntmps33
  go_upto_region 1 with (first | (refine wlBox ?_ 25 _ rfl (imA st S n c) rfl ?_; exact rfl; intro gI w1 hg hl ha hb; replace HB := keepB HB hb; replace HO := keepOB HO hb; replace HSG := Lib.hid (HSG.out.below hb); have HI := Lib.hid ha; have HGI : Hid (w.heap.size ≤ gI) := Lib.hid hg; clear ha hb hg hl) | (refine wlBox ?_ 68 _ rfl (rdA Wl ul (.slice Al nl cl) sl) rfl ?_; exact rfl; intro gL w2 hg hl ha hb; replace HB := keepB HB hb; replace HO := keepOB HO hb; replace HSG := Lib.hid (HSG.out.below hb); have HIL : Hid (gI < gL) := Lib.hid (Nat.lt_of_lt_of_le (Array.getElem?_eq_some_iff.1 HI.out).1 hg); replace HI := keepA HI hb; have HL := Lib.hid ha; clear ha hb hg hl) | (refine wlBox ?_ 68 _ rfl (rdA Wx ux (.slice Ax d.length cx) sx) rfl ?_; exact rfl; intro gX w3 hg hl ha hb; replace HB := keepB HB hb; replace HO := keepOB HO hb; replace HSG := Lib.hid (HSG.out.below hb); have HIX : Hid (gI < gX) := Lib.hid (Nat.lt_of_lt_of_le (Array.getElem?_eq_some_iff.1 HI.out).1 hg); replace HI := keepA HI hb; replace HL := keepA HL hb; have HX := Lib.hid ha; clear ha hb hg hl) | (refine wlAlloc ?_ 25 rfl (imA 0 none 0 0) zeroIm ?_; exact rfl; intro gT w4 hg hl ha hb; have HGT : Hid (w.heap.size ≤ gT) := Lib.hid (Nat.le_trans HB.out.2 hg); have HTX : Hid (gI < gT) := Lib.hid (Nat.lt_of_lt_of_le (Array.getElem?_eq_some_iff.1 HI.out).1 hg); have HTI : Hid (gT ≠ gI) := Lib.hid (Nat.ne_of_gt (Nat.lt_of_lt_of_le (Array.getElem?_eq_some_iff.1 HI.out).1 hg)); have HTX2 : Hid (gT ≠ gX) := Lib.hid (Nat.ne_of_gt (Nat.lt_of_lt_of_le (Array.getElem?_eq_some_iff.1 HX.out).1 hg)); replace HB := keepB HB hb; replace HO := keepOB HO hb; replace HSG := Lib.hid (HSG.out.below hb); replace HI := keepA HI hb; replace HL := keepA HL hb; replace HX := keepA HX hb; have HT := Lib.hid ha; have l0 : w4.cell? ⟨gL, 0, none⟩ = some (.string Wl) := cellA HL 0; have l1 : w4.cell? ⟨gL, 1, none⟩ = some (.int .u32 ul) := cellA HL 1; have l2 : w4.cell? ⟨gL, 2, none⟩ = some (.slice Al nl cl) := cellA HL 2; have l3 : w4.cell? ⟨gL, 3, none⟩ = some (.int .u8 sl) := cellA HL 3; have x0 : w4.cell? ⟨gX, 0, none⟩ = some (.string Wx) := cellA HX 0; have x1 : w4.cell? ⟨gX, 1, none⟩ = some (.int .u32 ux) := cellA HX 1; have x2 : w4.cell? ⟨gX, 2, none⟩ = some (.slice Ax d.length cx) := cellA HX 2; have x3 : w4.cell? ⟨gX, 3, none⟩ = some (.int .u8 sx) := cellA HX 3; have i0 : w4.cell? ⟨gI, 0, none⟩ = some (.int .u32 st) := cellA HI 0; have i1 : w4.cell? ⟨gI, 1, none⟩ = some (.slice S n c) := cellA HI 1; clear ha hb hg hl))
  go_wp2
  replace HB := keepB1 HB
  replace HO := Lib.hid (ownk_drew HO.out 1)
  replace HI := keepA1 HI
  replace HL := keepA1 HL
  replace HX := keepA1 HX
  replace HT := keepA1 HT
  replace HSG := Lib.hid (HSG.out.drew 1)
  refine rgStart (S := (fun w' => w'.heap[gX]? = some (.cells (rdA Wx ux (.slice Ax d.length cx) sx) 68 (0, 0)))) (n := 9) #[false, false, false, false, false, false, false, false, false] (by kernel_rfl) rfl rfl HX.out (fun hHeld => ?_)
  refine rgTake (i := 0) (N := some 26) (oi := { dst := some 26, op := Op.fieldAddr 68 (Operand.tmp 5) 1, type := 0, pos := "rom.go:167", after := #[], guard := none }) (v := ?_) #[true, false, false, false, false, false, false, false, false] rfl rfl (by kernel_rfl) (fun _ _ _ h => h) (Or.inl ⟨by rfl, ?_⟩) hHeld ?_
  rotate_left
  · intro w' hSw; (try dsimp only at hSw); (have x1 : w'.cell? ⟨gX, 1, none⟩ = some (.int .u32 ux) := cellA (Lib.hid hSw) 1; have x2 : w'.cell? ⟨gX, 2, none⟩ = some (.slice Ax d.length cx) := cellA (Lib.hid hSw) 2; have x3 : w'.cell? ⟨gX, 3, none⟩ = some (.int .u8 sx) := cellA (Lib.hid hSw) 3; clear hSw); go_simp; try with_reducible rfl
  simp only [Act.put, List.setIfInBounds_toArray, List.set_cons_zero, List.set_cons_succ]
  refine rgTake (i := 1) (N := some 27) (oi := { dst := some 27, op := Op.load 22 (Operand.tmp 26), type := 22, pos := "rom.go:167", after := #[{ on := 0, ground := Ground.data }], guard := none }) (v := ?_) #[true, true, false, false, false, false, false, false, false] rfl rfl (by kernel_rfl) (fun _ _ _ h => h) (Or.inl ⟨by rfl, ?_⟩) hHeld ?_
  rotate_left
  · intro w' hSw; (try dsimp only at hSw); (have x1 : w'.cell? ⟨gX, 1, none⟩ = some (.int .u32 ux) := cellA (Lib.hid hSw) 1; have x2 : w'.cell? ⟨gX, 2, none⟩ = some (.slice Ax d.length cx) := cellA (Lib.hid hSw) 2; have x3 : w'.cell? ⟨gX, 3, none⟩ = some (.int .u8 sx) := cellA (Lib.hid hSw) 3; clear hSw); go_simp; try with_reducible rfl
  simp only [Act.put, List.setIfInBounds_toArray, List.set_cons_zero, List.set_cons_succ]
  refine rgTake (i := 2) (N := some 28) (oi := { dst := some 28, op := Op.fieldAddr 68 (Operand.tmp 5) 2, type := 0, pos := "rom.go:167", after := #[], guard := none }) (v := ?_) #[true, true, true, false, false, false, false, false, false] rfl rfl (by kernel_rfl) (fun _ _ _ h => h) (Or.inl ⟨by rfl, ?_⟩) hHeld ?_
  rotate_left
  · intro w' hSw; (try dsimp only at hSw); (have x1 : w'.cell? ⟨gX, 1, none⟩ = some (.int .u32 ux) := cellA (Lib.hid hSw) 1; have x2 : w'.cell? ⟨gX, 2, none⟩ = some (.slice Ax d.length cx) := cellA (Lib.hid hSw) 2; have x3 : w'.cell? ⟨gX, 3, none⟩ = some (.int .u8 sx) := cellA (Lib.hid hSw) 3; clear hSw); go_simp; try with_reducible rfl
  simp only [Act.put, List.setIfInBounds_toArray, List.set_cons_zero, List.set_cons_succ]
  refine rgTake (i := 3) (N := some 29) (oi := { dst := some 29, op := Op.load 26 (Operand.tmp 28), type := 26, pos := "rom.go:167", after := #[{ on := 2, ground := Ground.data }], guard := none }) (v := ?_) #[true, true, true, true, false, false, false, false, false] rfl rfl (by kernel_rfl) (fun _ _ _ h => h) (Or.inl ⟨by rfl, ?_⟩) hHeld ?_
  rotate_left
  · intro w' hSw; (try dsimp only at hSw); (have x1 : w'.cell? ⟨gX, 1, none⟩ = some (.int .u32 ux) := cellA (Lib.hid hSw) 1; have x2 : w'.cell? ⟨gX, 2, none⟩ = some (.slice Ax d.length cx) := cellA (Lib.hid hSw) 2; have x3 : w'.cell? ⟨gX, 3, none⟩ = some (.int .u8 sx) := cellA (Lib.hid hSw) 3; clear hSw); go_simp; try with_reducible rfl
  simp only [Act.put, List.setIfInBounds_toArray, List.set_cons_zero, List.set_cons_succ]
  refine rgTake (i := 5) (N := some 31) (oi := { dst := some 31, op := Op.fieldAddr 68 (Operand.tmp 5) 3, type := 0, pos := "rom.go:167", after := #[], guard := none }) (v := ?_) #[true, true, true, true, false, true, false, false, false] rfl rfl (by kernel_rfl) (fun _ _ _ h => h) (Or.inl ⟨by rfl, ?_⟩) hHeld ?_
  rotate_left
  · intro w' hSw; (try dsimp only at hSw); (have x1 : w'.cell? ⟨gX, 1, none⟩ = some (.int .u32 ux) := cellA (Lib.hid hSw) 1; have x2 : w'.cell? ⟨gX, 2, none⟩ = some (.slice Ax d.length cx) := cellA (Lib.hid hSw) 2; have x3 : w'.cell? ⟨gX, 3, none⟩ = some (.int .u8 sx) := cellA (Lib.hid hSw) 3; clear hSw); go_simp; try with_reducible rfl
  simp only [Act.put, List.setIfInBounds_toArray, List.set_cons_zero, List.set_cons_succ]
  refine rgTake (i := 6) (N := some 32) (oi := { dst := some 32, op := Op.load 5 (Operand.tmp 31), type := 5, pos := "rom.go:167", after := #[{ on := 5, ground := Ground.data }], guard := none }) (v := ?_) #[true, true, true, true, false, true, true, false, false] rfl rfl (by kernel_rfl) (fun _ _ _ h => h) (Or.inl ⟨by rfl, ?_⟩) hHeld ?_
  rotate_left
  · intro w' hSw; (try dsimp only at hSw); (have x1 : w'.cell? ⟨gX, 1, none⟩ = some (.int .u32 ux) := cellA (Lib.hid hSw) 1; have x2 : w'.cell? ⟨gX, 2, none⟩ = some (.slice Ax d.length cx) := cellA (Lib.hid hSw) 2; have x3 : w'.cell? ⟨gX, 3, none⟩ = some (.int .u8 sx) := cellA (Lib.hid hSw) 3; clear hSw); go_simp; try with_reducible rfl
  simp only [Act.put, List.setIfInBounds_toArray, List.set_cons_zero, List.set_cons_succ]
  refine rgCall (i := 4) (N := some 30) (oi := { dst := some 30, op := Op.call { callee := Callee.value (Operand.func 42), args := #[Operand.tmp 27, Operand.tmp 29], argTypes := #[22, 26] }, type := 5, pos := "rom.go:167", after := #[{ on := 1, ground := Ground.data }, { on := 3, ground := Ground.data }], guard := none }) #[true, true, true, true, true, true, true, false, false] rfl rfl (by kernel_rfl) (fun K hK => ?_)
  go_simp
  (go_at_call 42; refine (cks_own ux cx Ax d _ hux HO.out hd).mono ?_; rw [HCK.out]; rintro e w6 ⟨rfl, hb⟩; replace HB := keepB HB hb; replace HO := keepOB HO hb; replace HSG := Lib.hid (HSG.out.below hb); replace HI := keepA HI hb; replace HL := keepA HL hb; replace HX := keepA HX hb; replace HT := keepA HT hb; clear hb)
  refine hK.out _ _ HX.out (fun hHeld => ?_)
  (try simp only [Act.put, List.setIfInBounds_toArray, List.set_cons_zero, List.set_cons_succ])
  clear hK K
  refine rgTake (i := 7) (N := some 33) (oi := { dst := some 33, op := Op.binOp BinOp.neq 5 (Operand.tmp 30) (Operand.tmp 32) 5, type := 4, pos := "rom.go:167", after := #[{ on := 4, ground := Ground.data }, { on := 6, ground := Ground.data }], guard := none }) (v := ?_) #[true, true, true, true, true, true, true, true, false] rfl rfl (by kernel_rfl) (fun _ _ _ h => h) (Or.inl ⟨by rfl, ?_⟩) hHeld ?_
  rotate_left
  · intro w' hSw; (try dsimp only at hSw); (have x1 : w'.cell? ⟨gX, 1, none⟩ = some (.int .u32 ux) := cellA (Lib.hid hSw) 1; have x2 : w'.cell? ⟨gX, 2, none⟩ = some (.slice Ax d.length cx) := cellA (Lib.hid hSw) 2; have x3 : w'.cell? ⟨gX, 3, none⟩ = some (.int .u8 sx) := cellA (Lib.hid hSw) 3; clear hSw); go_simp; try with_reducible rfl
  simp only [Act.put, List.setIfInBounds_toArray, List.set_cons_zero, List.set_cons_succ]
  refine rgTake (i := 8) (N := some 25) (oi := { dst := some 25, op := Op.assign (Operand.tmp 33), type := 4, pos := "rom.go:167", after := #[{ on := 7, ground := Ground.data }, { on := 4, ground := Ground.chain }], guard := none }) (v := ?_) #[true, true, true, true, true, true, true, true, true] rfl rfl (by kernel_rfl) (fun _ _ _ h => h) (Or.inl ⟨by rfl, ?_⟩) hHeld ?_
  rotate_left
  · intro w' hSw; (try dsimp only at hSw); (have x1 : w'.cell? ⟨gX, 1, none⟩ = some (.int .u32 ux) := cellA (Lib.hid hSw) 1; have x2 : w'.cell? ⟨gX, 2, none⟩ = some (.slice Ax d.length cx) := cellA (Lib.hid hSw) 2; have x3 : w'.cell? ⟨gX, 3, none⟩ = some (.int .u8 sx) := cellA (Lib.hid hSw) 3; clear hSw); go_simp; try with_reducible rfl
  simp only [Act.put, List.setIfInBounds_toArray, List.set_cons_zero, List.set_cons_succ]
  refine rgDone (by kernel_rfl) ?_ _
  have l0 : w6.cell? ⟨gL, 0, none⟩ = some (.string Wl) := cellA HL 0; have l1 : w6.cell? ⟨gL, 1, none⟩ = some (.int .u32 ul) := cellA HL 1; have l2 : w6.cell? ⟨gL, 2, none⟩ = some (.slice Al nl cl) := cellA HL 2; have l3 : w6.cell? ⟨gL, 3, none⟩ = some (.int .u8 sl) := cellA HL 3; have x0 : w6.cell? ⟨gX, 0, none⟩ = some (.string Wx) := cellA HX 0; have x1 : w6.cell? ⟨gX, 1, none⟩ = some (.int .u32 ux) := cellA HX 1; have x2 : w6.cell? ⟨gX, 2, none⟩ = some (.slice Ax d.length cx) := cellA HX 2; have x3 : w6.cell? ⟨gX, 3, none⟩ = some (.int .u8 sx) := cellA HX 3; have i0 : w6.cell? ⟨gI, 0, none⟩ = some (.int .u32 st) := cellA HI 0; have i1 : w6.cell? ⟨gI, 1, none⟩ = some (.slice S n c) := cellA HI 1
  go_upto_region 16 with fail
  replace HB := keepB1 HB
  replace HO := Lib.hid (ownk_drew HO.out 1)
  replace HI := keepA1 HI
  replace HL := keepA1 HL
  replace HX := keepA1 HX
  replace HT := keepA1 HT
  replace HSG := Lib.hid (HSG.out.drew 1)
  refine rgStart (S := (fun w' => w'.heap[gX]? = some (.cells (rdA Wx ux (.slice Ax d.length cx) sx) 68 (0, 0)))) (n := 15) #[false, false, false, false, false, false, false, false, false, false, false, false, false, false, false] (by kernel_rfl) rfl rfl HX.out (fun hHeld => ?_)
  refine rgTake (i := 0) (N := some 87) (oi := { dst := some 87, op := Op.move (Operand.tmp 8), type := 3, pos := "rom.go:182", after := #[], guard := none }) (v := ?_) #[true, false, false, false, false, false, false, false, false, false, false, false, false, false, false] rfl rfl (by kernel_rfl) (fun _ _ _ h => h) (Or.inl ⟨by rfl, ?_⟩) hHeld ?_
  rotate_left
  · intro w' hSw; (try dsimp only at hSw); (have x1 : w'.cell? ⟨gX, 1, none⟩ = some (.int .u32 ux) := cellA (Lib.hid hSw) 1; have x2 : w'.cell? ⟨gX, 2, none⟩ = some (.slice Ax d.length cx) := cellA (Lib.hid hSw) 2; have x3 : w'.cell? ⟨gX, 3, none⟩ = some (.int .u8 sx) := cellA (Lib.hid hSw) 3; clear hSw); go_simp; try with_reducible rfl
  simp only [Act.put, List.setIfInBounds_toArray, List.set_cons_zero, List.set_cons_succ]
  refine rgTake (i := 1) (N := some 88) (oi := { dst := some 88, op := Op.binOp BinOp.gtr 3 (Operand.tmp 87) (Operand.const (Value.int IntKind.i64 0)) 3, type := 4, pos := "rom.go:182", after := #[{ on := 0, ground := Ground.data }], guard := none }) (v := ?_) #[true, true, false, false, false, false, false, false, false, false, false, false, false, false, false] rfl rfl (by kernel_rfl) (fun _ _ _ h => h) (Or.inl ⟨by rfl, ?_⟩) hHeld ?_
  rotate_left
  · intro w' hSw; (try dsimp only at hSw); (have x1 : w'.cell? ⟨gX, 1, none⟩ = some (.int .u32 ux) := cellA (Lib.hid hSw) 1; have x2 : w'.cell? ⟨gX, 2, none⟩ = some (.slice Ax d.length cx) := cellA (Lib.hid hSw) 2; have x3 : w'.cell? ⟨gX, 3, none⟩ = some (.int .u8 sx) := cellA (Lib.hid hSw) 3; clear hSw); go_simp; try with_reducible rfl
  simp only [Act.put, List.setIfInBounds_toArray, List.set_cons_zero, List.set_cons_succ]
  refine rgTake (i := 2) (N := some 89) (oi := { dst := some 89, op := Op.move (Operand.tmp 88), type := 4, pos := "rom.go:182", after := #[{ on := 1, ground := Ground.data }], guard := none }) (v := ?_) #[true, true, true, false, false, false, false, false, false, false, false, false, false, false, false] rfl rfl (by kernel_rfl) (fun _ _ _ h => h) (Or.inl ⟨by rfl, ?_⟩) hHeld ?_
  rotate_left
  · intro w' hSw; (try dsimp only at hSw); (have x1 : w'.cell? ⟨gX, 1, none⟩ = some (.int .u32 ux) := cellA (Lib.hid hSw) 1; have x2 : w'.cell? ⟨gX, 2, none⟩ = some (.slice Ax d.length cx) := cellA (Lib.hid hSw) 2; have x3 : w'.cell? ⟨gX, 3, none⟩ = some (.int .u8 sx) := cellA (Lib.hid hSw) 3; clear hSw); go_simp; try with_reducible rfl
  simp only [Act.put, List.setIfInBounds_toArray, List.set_cons_zero, List.set_cons_succ]
  refine rgTake (i := 3) (N := some 90) (oi := { dst := some 90, op := Op.fieldAddr 68 (Operand.tmp 5) 1, type := 0, pos := "rom.go:182", after := #[{ on := 2, ground := Ground.guard }], guard := some (2, true) }) (v := undef) #[true, true, true, true, false, false, false, false, false, false, false, false, false, false, false] rfl rfl (by kernel_rfl) (fun _ _ _ h => h) (Or.inr ⟨by rfl, rfl⟩) hHeld ?_
  simp only [Act.put, List.setIfInBounds_toArray, List.set_cons_zero, List.set_cons_succ]
  refine rgTake (i := 4) (N := some 91) (oi := { dst := some 91, op := Op.load 22 (Operand.tmp 90), type := 22, pos := "rom.go:182", after := #[{ on := 3, ground := Ground.data }, { on := 2, ground := Ground.guard }], guard := some (2, true) }) (v := undef) #[true, true, true, true, true, false, false, false, false, false, false, false, false, false, false] rfl rfl (by kernel_rfl) (fun _ _ _ h => h) (Or.inr ⟨by rfl, rfl⟩) hHeld ?_
  simp only [Act.put, List.setIfInBounds_toArray, List.set_cons_zero, List.set_cons_succ]
  refine rgTake (i := 5) (N := some 92) (oi := { dst := some 92, op := Op.convert 22 3 (Operand.tmp 91), type := 3, pos := "rom.go:182", after := #[{ on := 4, ground := Ground.data }, { on := 2, ground := Ground.guard }], guard := some (2, true) }) (v := undef) #[true, true, true, true, true, true, false, false, false, false, false, false, false, false, false] rfl rfl (by kernel_rfl) (fun _ _ _ h => h) (Or.inr ⟨by rfl, rfl⟩) hHeld ?_
  simp only [Act.put, List.setIfInBounds_toArray, List.set_cons_zero, List.set_cons_succ]
  refine rgTake (i := 6) (N := some 93) (oi := { dst := some 93, op := Op.fieldAddr 25 (Operand.tmp 3) 1, type := 0, pos := "rom.go:182", after := #[{ on := 2, ground := Ground.guard }], guard := some (2, true) }) (v := undef) #[true, true, true, true, true, true, true, false, false, false, false, false, false, false, false] rfl rfl (by kernel_rfl) (fun _ _ _ h => h) (Or.inr ⟨by rfl, rfl⟩) hHeld ?_
  simp only [Act.put, List.setIfInBounds_toArray, List.set_cons_zero, List.set_cons_succ]
  refine rgTake (i := 7) (N := some 94) (oi := { dst := some 94, op := Op.load 23 (Operand.tmp 93), type := 23, pos := "rom.go:182", after := #[{ on := 6, ground := Ground.data }, { on := 2, ground := Ground.guard }], guard := some (2, true) }) (v := undef) #[true, true, true, true, true, true, true, true, false, false, false, false, false, false, false] rfl rfl (by kernel_rfl) (fun _ _ _ h => h) (Or.inr ⟨by rfl, rfl⟩) hHeld ?_
  simp only [Act.put, List.setIfInBounds_toArray, List.set_cons_zero, List.set_cons_succ]
  refine rgTake (i := 8) (N := some 95) (oi := { dst := some 95, op := Op.move (Operand.tmp 8), type := 3, pos := "rom.go:182", after := #[{ on := 2, ground := Ground.guard }], guard := some (2, true) }) (v := undef) #[true, true, true, true, true, true, true, true, true, false, false, false, false, false, false] rfl rfl (by kernel_rfl) (fun _ _ _ h => h) (Or.inr ⟨by rfl, rfl⟩) hHeld ?_
  simp only [Act.put, List.setIfInBounds_toArray, List.set_cons_zero, List.set_cons_succ]
  refine rgTake (i := 9) (N := some 96) (oi := { dst := some 96, op := Op.binOp BinOp.sub 3 (Operand.tmp 95) (Operand.const (Value.int IntKind.i64 1)) 3, type := 3, pos := "rom.go:182", after := #[{ on := 8, ground := Ground.data }, { on := 2, ground := Ground.guard }], guard := some (2, true) }) (v := undef) #[true, true, true, true, true, true, true, true, true, true, false, false, false, false, false] rfl rfl (by kernel_rfl) (fun _ _ _ h => h) (Or.inr ⟨by rfl, rfl⟩) hHeld ?_
  simp only [Act.put, List.setIfInBounds_toArray, List.set_cons_zero, List.set_cons_succ]
  refine rgTake (i := 10) (N := some 97) (oi := { dst := some 97, op := Op.indexAddr 23 (Operand.tmp 94) (Operand.tmp 96), type := 0, pos := "rom.go:182", after := #[{ on := 7, ground := Ground.data }, { on := 9, ground := Ground.data }, { on := 2, ground := Ground.guard }], guard := some (2, true) }) (v := undef) #[true, true, true, true, true, true, true, true, true, true, true, false, false, false, false] rfl rfl (by kernel_rfl) (fun _ _ _ h => h) (Or.inr ⟨by rfl, rfl⟩) hHeld ?_
  simp only [Act.put, List.setIfInBounds_toArray, List.set_cons_zero, List.set_cons_succ]
  refine rgTake (i := 11) (N := some 98) (oi := { dst := some 98, op := Op.load 51 (Operand.tmp 97), type := 51, pos := "rom.go:182", after := #[{ on := 10, ground := Ground.data }, { on := 2, ground := Ground.guard }], guard := some (2, true) }) (v := undef) #[true, true, true, true, true, true, true, true, true, true, true, true, false, false, false] rfl rfl (by kernel_rfl) (fun _ _ _ h => h) (Or.inr ⟨by rfl, rfl⟩) hHeld ?_
  simp only [Act.put, List.setIfInBounds_toArray, List.set_cons_zero, List.set_cons_succ]
  refine rgTake (i := 12) (N := some 99) (oi := { dst := some 99, op := Op.call { callee := Callee.value (Operand.func 37), args := #[Operand.tmp 98], argTypes := #[51] }, type := 3, pos := "rom.go:182", after := #[{ on := 11, ground := Ground.data }, { on := 2, ground := Ground.chain }, { on := 2, ground := Ground.guard }], guard := some (2, true) }) (v := undef) #[true, true, true, true, true, true, true, true, true, true, true, true, true, false, false] rfl rfl (by kernel_rfl) (fun _ _ _ h => h) (Or.inr ⟨by rfl, rfl⟩) hHeld ?_
  simp only [Act.put, List.setIfInBounds_toArray, List.set_cons_zero, List.set_cons_succ]
  refine rgTake (i := 13) (N := some 100) (oi := { dst := some 100, op := Op.binOp BinOp.lss 3 (Operand.tmp 92) (Operand.tmp 99) 3, type := 4, pos := "rom.go:182", after := #[{ on := 5, ground := Ground.data }, { on := 12, ground := Ground.data }, { on := 2, ground := Ground.guard }], guard := some (2, true) }) (v := undef) #[true, true, true, true, true, true, true, true, true, true, true, true, true, true, false] rfl rfl (by kernel_rfl) (fun _ _ _ h => h) (Or.inr ⟨by rfl, rfl⟩) hHeld ?_
  simp only [Act.put, List.setIfInBounds_toArray, List.set_cons_zero, List.set_cons_succ]
  refine rgTake (i := 14) (N := some 101) (oi := { dst := some 101, op := Op.pick (Operand.tmp 89) (Operand.tmp 100) (Operand.const (Value.bool false)), type := 4, pos := "rom.go:182", after := #[{ on := 2, ground := Ground.data }, { on := 13, ground := Ground.data }], guard := none }) (v := ?_) #[true, true, true, true, true, true, true, true, true, true, true, true, true, true, true] rfl rfl (by kernel_rfl) (fun _ _ _ h => h) (Or.inl ⟨by rfl, ?_⟩) hHeld ?_
  rotate_left
  · intro w' hSw; (try dsimp only at hSw); (have x1 : w'.cell? ⟨gX, 1, none⟩ = some (.int .u32 ux) := cellA (Lib.hid hSw) 1; have x2 : w'.cell? ⟨gX, 2, none⟩ = some (.slice Ax d.length cx) := cellA (Lib.hid hSw) 2; have x3 : w'.cell? ⟨gX, 3, none⟩ = some (.int .u8 sx) := cellA (Lib.hid hSw) 3; clear hSw); go_simp; try with_reducible rfl
  simp only [Act.put, List.setIfInBounds_toArray, List.set_cons_zero, List.set_cons_succ]
  refine rgDone (by kernel_rfl) ?_ _
  have l0 : w6.drew.cell? ⟨gL, 0, none⟩ = some (.string Wl) := cellA HL 0; have l1 : w6.drew.cell? ⟨gL, 1, none⟩ = some (.int .u32 ul) := cellA HL 1; have l2 : w6.drew.cell? ⟨gL, 2, none⟩ = some (.slice Al nl cl) := cellA HL 2; have l3 : w6.drew.cell? ⟨gL, 3, none⟩ = some (.int .u8 sl) := cellA HL 3; have x0 : w6.drew.cell? ⟨gX, 0, none⟩ = some (.string Wx) := cellA HX 0; have x1 : w6.drew.cell? ⟨gX, 1, none⟩ = some (.int .u32 ux) := cellA HX 1; have x2 : w6.drew.cell? ⟨gX, 2, none⟩ = some (.slice Ax d.length cx) := cellA HX 2; have x3 : w6.drew.cell? ⟨gX, 3, none⟩ = some (.int .u8 sx) := cellA HX 3; have i0 : w6.drew.cell? ⟨gI, 0, none⟩ = some (.int .u32 st) := cellA HI 0; have i1 : w6.drew.cell? ⟨gI, 1, none⟩ = some (.slice S n c) := cellA HI 1
  go_upto_region 18 with fail
  go_wp2_with (first | (refine wlLit rfl 23 1 _ rfl #[.int .u32 ux, .slice Ax d.length cx] 51 (fun _ => by kernel_rfl) ?_; intro gS w8 hg1 hg2 ha hb; replace HB := keepB HB hb; replace HO := keepOB HO hb; replace HI := keepA HI hb; replace HX := keepA HX hb; replace HT := keepA HT hb; replace HSG := Lib.hid (HSG.out.below hb); have HLT := Lib.hid ha; have HO2 : Hid (OwnB w8 B (dV ⟨ux, Ax, cx, d⟩) d) := Lib.hid (own_weak HO.out HBX.out); clear ha hb hg1 hg2) | (refine appRow rfl _ _ 23 51 _ 2 32 rfl Tryd.underlying23 infoSeg3 rfl (by decide) B _ n _ rfl (by have := HSG.out.row; rw [HN.out] at this; exact this) #[.int .u32 ux, .slice Ax d.length cx] rfl (sA_one ⟨ux, Ax, cx, d⟩) gS 1 rfl HLT.out (by unfold maxLen; omega) (by omega) (Nat.le_trans HBB.out HB.out.2) ?_; intro v2 w9 ho2 hg2 _; rw [← HN.out] at ho2; have HS2 := Lib.hid (HSG.out.push (m := ⟨ux, Ax, cx, d⟩) HO2.out hrg HAP.out ho2 hg2); have HK : Hid (Kp B w w9) := Lib.hid ((Kp.of HB.out.1 HBB.out).grown HSG.out.row (.inr rfl) hg2); replace HI := keepGrow HI HSG.out.row hg2 (by decide); replace HT := keepGrow HT HSG.out.row hg2 (by decide); obtain ⟨S2, c2, hv2, _⟩ := HS2.out.rd; have hn2 : (ms ++ [(⟨ux, Ax, cx, d⟩ : SegM)]).length = n + 1 := (by rw [List.length_append, HN.out]; try rfl); rw [hn2] at hv2; subst hv2; clear ho2 hg2 hn2) | (refine cellStore rfl 23 _ _ rfl gI 1 rfl (.slice S2 (n + 1) c2) rfl rfl rfl HI.out (by show 1 < 2; decide) infoSS ?_; intro w10 ha ho; replace HS2 := Lib.hid (HS2.out.only ho HI.out (by decide) (by decide)); replace HK := Lib.hid (HK.out.only HGI.out HBB.out ho); replace HI : Hid (w10.heap[gI]? = some (.cells (imA st S2 (n + 1) c2) 25 (0, 0))) := Lib.hid ha; replace HT := keepAo HT HTI.out ho; have i0 : w10.cell? ⟨gI, 0, none⟩ = some (.int .u32 st) := cellA HI 0; have i1 : w10.cell? ⟨gI, 1, none⟩ = some (.slice S2 (n + 1) c2) := cellA HI 1; clear ha ho) | (refine rowStore ?_ 25 _ _ rfl gT rfl (imA st S2 (n + 1) c2) rfl HT.out infoIm rfl (imA_one _ _ _ _) ?_; exact rfl; intro w9 ha ho; have HT0 := HT; replace HT := Lib.hid ha; replace HS2 := Lib.hid (HS2.out.only ho HT0.out (by decide) (by decide)); replace HK := Lib.hid (HK.out.only HGT.out HBB.out ho); clear ha ho))
  exact bodyPost_ret (res1c rfl _ _ gT 25 (imA st S2 (n + 1) c2) (0, 0) _ rfl HT.out Tryd.underlying25 rfl infoIm) rfl ⟨S2, c2, rfl, HS2.out, HK.out⟩
set_option maxRecDepth 100000 in
set_option maxHeartbeats 2000000 in
theorem next_h (st n c : Nat) (S : Option Addr) (Wl : ByteArray) (ul nl cl sl : Nat) (Al : Option Addr) (Wx : ByteArray) (ux cx sx : Nat) (Ax : Option Addr) (d : List UInt8) (w : World) (Bx : Nat) (hO : OwnB w Bx (.slice Ax d.length cx) d) (hul : ul < 4294967296) (hux : ux < 4294967296) (hsx : sx < 256) (hnl : nl ≤ 1000000) (hd : d.length ≤ 1000000) (hn : n ≤ 1000000) (q1 : (Wl.toList == [115, 116, 97, 114, 116]) = false) (q2 : (Wx.toList == [97, 110, 100]) = false) (q3 : (Wx.toList == [115, 116, 97, 114, 116]) = false) (q4 : (Wx.toList == [115, 101, 103]) = true) (hk : ckV ux d = sx) (B : Nat) (ms : List SegM) (hS : SegsAt w B (.slice S n c) ms) (hms : ms.length = n) (hB : B ≤ w.heap.size) (hBx : B ≤ Bx) (hap : ∀ a ∈ ms, ∀ k, (dV a).ownBlock = some k → (dV ⟨ux, Ax, cx, d⟩).ownBlock ≠ some k) (hrg : ux + d.length ≤ 16384) (k : Nat) (m0 : SegM) (hm0 : ms[k]? = some m0) (hk1 : n = k + 1) (h64 : n ≠ 64) (hc : ux < m0.at_ + m0.d.length) : Calls Tryd.prog 33 #[.agg (imA st S n c), .agg (rdA Wl ul (.slice Al nl cl) sl), .agg (rdA Wx ux (.slice Ax d.length cx) sx)] w fun e w' => e = .returned (.tuple #[.agg (imA st S n c), .int .i64 7]) ∧ Below w.heap.size w w' := by
  have HB := startB w
  have HO := Lib.hid hO
  clear hO
  obtain ⟨A0, C0, hv0, hrd⟩ := hS.rd
  injection hv0 with hv1 hv2 hv3
  subst hv1
  have hm0s := List.mem_of_getElem? hm0
  obtain ⟨b, off, hSb, _, _⟩ := hrd.1.2.2 (by omega)
  have hel : w.rangeAt b (off + k * 2) (sA m0).toList := RwA.at_ (hSb ▸ hrd.1) (by omega) (sA_get hm0)
  obtain ⟨e1, e2, _, _⟩ := hrd.2 m0 hm0s
  subst hSb
  obtain ⟨E, hE⟩ : ∃ E, m0.at_ + m0.d.length = E := ⟨_, rfl⟩
  rw [hE] at hc
  have HEN : Hid (∀ w, Calls Tryd.prog 37 #[.agg (sA m0)] w fun e w' => e = .returned (.int .i64 ((E : Nat) : Int)) ∧ Below w.heap.size w w') := Lib.hid (fun w => hE ▸ end_any m0 w e1 e2)
  have HEL := Lib.hid hel
  have hkn : k < n := by omega
  have e7 : IntKind.i64.wrap ((n : Int) - 1) = (k : Int) := by rw [IntKind.wrap_i64]; omega
  have e8 : IntKind.i64.wrap (ux : Int) = (ux : Int) := by rw [IntKind.wrap_i64]; omega
  have q8 : decide (0 < n) = true := decide_eq_true (by omega)
  have q9 : 0 < n := by omega
  clear hrd hel hE hm0s hm0 hk1 hv2 hv3 e1 e2
  have HSG := Lib.hid hS
  have HN := Lib.hid hms
  have HBB := Lib.hid hB
  have HBX := Lib.hid hBx
  have HAP := Lib.hid hap
  clear hS hms hap hB hBx
  have HCK := Lib.hid hk
  clear hk
  have n1 : ((n : Int) == 64) = false := beq_eq_false_iff_ne.2 (by omega)
  clear h64
  have q5 : decide (ux < E) = true := decide_eq_true (by omega)
  go_enter Tryd.func33, Tryd.ntmps33
  go_upto_region 1 with (first | (refine wlBox ?_ 25 _ rfl (imA st (some ⟨b, off, none⟩) n c) rfl ?_; exact rfl; intro gI w1 hg hl ha hb; replace HB := keepB HB hb; replace HO := keepOB HO hb; replace HEL := Lib.hid (range_below HEL.out hb); replace HSG := Lib.hid (HSG.out.below hb); have HI := Lib.hid ha; have HGI : Hid (w.heap.size ≤ gI) := Lib.hid hg; clear ha hb hg hl) | (refine wlBox ?_ 68 _ rfl (rdA Wl ul (.slice Al nl cl) sl) rfl ?_; exact rfl; intro gL w2 hg hl ha hb; replace HB := keepB HB hb; replace HO := keepOB HO hb; replace HEL := Lib.hid (range_below HEL.out hb); replace HSG := Lib.hid (HSG.out.below hb); have HIL : Hid (gI < gL) := Lib.hid (Nat.lt_of_lt_of_le (Array.getElem?_eq_some_iff.1 HI.out).1 hg); replace HI := keepA HI hb; have HL := Lib.hid ha; clear ha hb hg hl) | (refine wlBox ?_ 68 _ rfl (rdA Wx ux (.slice Ax d.length cx) sx) rfl ?_; exact rfl; intro gX w3 hg hl ha hb; replace HB := keepB HB hb; replace HO := keepOB HO hb; replace HEL := Lib.hid (range_below HEL.out hb); replace HSG := Lib.hid (HSG.out.below hb); have HIX : Hid (gI < gX) := Lib.hid (Nat.lt_of_lt_of_le (Array.getElem?_eq_some_iff.1 HI.out).1 hg); replace HI := keepA HI hb; replace HL := keepA HL hb; have HX := Lib.hid ha; clear ha hb hg hl) | (refine wlAlloc ?_ 25 rfl (imA 0 none 0 0) zeroIm ?_; exact rfl; intro gT w4 hg hl ha hb; have HGT : Hid (w.heap.size ≤ gT) := Lib.hid (Nat.le_trans HB.out.2 hg); have HTX : Hid (gI < gT) := Lib.hid (Nat.lt_of_lt_of_le (Array.getElem?_eq_some_iff.1 HI.out).1 hg); have HTI : Hid (gT ≠ gI) := Lib.hid (Nat.ne_of_gt (Nat.lt_of_lt_of_le (Array.getElem?_eq_some_iff.1 HI.out).1 hg)); have HTX2 : Hid (gT ≠ gX) := Lib.hid (Nat.ne_of_gt (Nat.lt_of_lt_of_le (Array.getElem?_eq_some_iff.1 HX.out).1 hg)); replace HB := keepB HB hb; replace HO := keepOB HO hb; replace HEL := Lib.hid (range_below HEL.out hb); replace HSG := Lib.hid (HSG.out.below hb); replace HI := keepA HI hb; replace HL := keepA HL hb; replace HX := keepA HX hb; have HT := Lib.hid ha; have l0 : w4.cell? ⟨gL, 0, none⟩ = some (.string Wl) := cellA HL 0; have l1 : w4.cell? ⟨gL, 1, none⟩ = some (.int .u32 ul) := cellA HL 1; have l2 : w4.cell? ⟨gL, 2, none⟩ = some (.slice Al nl cl) := cellA HL 2; have l3 : w4.cell? ⟨gL, 3, none⟩ = some (.int .u8 sl) := cellA HL 3; have x0 : w4.cell? ⟨gX, 0, none⟩ = some (.string Wx) := cellA HX 0; have x1 : w4.cell? ⟨gX, 1, none⟩ = some (.int .u32 ux) := cellA HX 1; have x2 : w4.cell? ⟨gX, 2, none⟩ = some (.slice Ax d.length cx) := cellA HX 2; have x3 : w4.cell? ⟨gX, 3, none⟩ = some (.int .u8 sx) := cellA HX 3; have i0 : w4.cell? ⟨gI, 0, none⟩ = some (.int .u32 st) := cellA HI 0; have i1 : w4.cell? ⟨gI, 1, none⟩ = some (.slice (some ⟨b, off, none⟩) n c) := cellA HI 1; clear ha hb hg hl))
  go_wp2
  replace HB := keepB1 HB
  replace HO := Lib.hid (ownk_drew HO.out 1)
  replace HI := keepA1 HI
  replace HL := keepA1 HL
  replace HX := keepA1 HX
  replace HT := keepA1 HT
  replace HSG := Lib.hid (HSG.out.drew 1)
  replace HEL : Hid (w4.drew.rangeAt b (off + k * 2) (sA m0).toList) := Lib.hid HEL.out
  refine rgStart (S := (fun w' => w'.heap[gX]? = some (.cells (rdA Wx ux (.slice Ax d.length cx) sx) 68 (0, 0)))) (n := 9) #[false, false, false, false, false, false, false, false, false] (by kernel_rfl) rfl rfl HX.out (fun hHeld => ?_)
  refine rgTake (i := 0) (N := some 26) (oi := { dst := some 26, op := Op.fieldAddr 68 (Operand.tmp 5) 1, type := 0, pos := "rom.go:167", after := #[], guard := none }) (v := ?_) #[true, false, false, false, false, false, false, false, false] rfl rfl (by kernel_rfl) (fun _ _ _ h => h) (Or.inl ⟨by rfl, ?_⟩) hHeld ?_
  rotate_left
  · intro w' hSw; (try dsimp only at hSw); (have x1 : w'.cell? ⟨gX, 1, none⟩ = some (.int .u32 ux) := cellA (Lib.hid hSw) 1; have x2 : w'.cell? ⟨gX, 2, none⟩ = some (.slice Ax d.length cx) := cellA (Lib.hid hSw) 2; have x3 : w'.cell? ⟨gX, 3, none⟩ = some (.int .u8 sx) := cellA (Lib.hid hSw) 3; clear hSw); go_simp; try with_reducible rfl
  simp only [Act.put, List.setIfInBounds_toArray, List.set_cons_zero, List.set_cons_succ]
  refine rgTake (i := 1) (N := some 27) (oi := { dst := some 27, op := Op.load 22 (Operand.tmp 26), type := 22, pos := "rom.go:167", after := #[{ on := 0, ground := Ground.data }], guard := none }) (v := ?_) #[true, true, false, false, false, false, false, false, false] rfl rfl (by kernel_rfl) (fun _ _ _ h => h) (Or.inl ⟨by rfl, ?_⟩) hHeld ?_
  rotate_left
  · intro w' hSw; (try dsimp only at hSw); (have x1 : w'.cell? ⟨gX, 1, none⟩ = some (.int .u32 ux) := cellA (Lib.hid hSw) 1; have x2 : w'.cell? ⟨gX, 2, none⟩ = some (.slice Ax d.length cx) := cellA (Lib.hid hSw) 2; have x3 : w'.cell? ⟨gX, 3, none⟩ = some (.int .u8 sx) := cellA (Lib.hid hSw) 3; clear hSw); go_simp; try with_reducible rfl
  simp only [Act.put, List.setIfInBounds_toArray, List.set_cons_zero, List.set_cons_succ]
  refine rgTake (i := 2) (N := some 28) (oi := { dst := some 28, op := Op.fieldAddr 68 (Operand.tmp 5) 2, type := 0, pos := "rom.go:167", after := #[], guard := none }) (v := ?_) #[true, true, true, false, false, false, false, false, false] rfl rfl (by kernel_rfl) (fun _ _ _ h => h) (Or.inl ⟨by rfl, ?_⟩) hHeld ?_
  rotate_left
  · intro w' hSw; (try dsimp only at hSw); (have x1 : w'.cell? ⟨gX, 1, none⟩ = some (.int .u32 ux) := cellA (Lib.hid hSw) 1; have x2 : w'.cell? ⟨gX, 2, none⟩ = some (.slice Ax d.length cx) := cellA (Lib.hid hSw) 2; have x3 : w'.cell? ⟨gX, 3, none⟩ = some (.int .u8 sx) := cellA (Lib.hid hSw) 3; clear hSw); go_simp; try with_reducible rfl
  simp only [Act.put, List.setIfInBounds_toArray, List.set_cons_zero, List.set_cons_succ]
  refine rgTake (i := 3) (N := some 29) (oi := { dst := some 29, op := Op.load 26 (Operand.tmp 28), type := 26, pos := "rom.go:167", after := #[{ on := 2, ground := Ground.data }], guard := none }) (v := ?_) #[true, true, true, true, false, false, false, false, false] rfl rfl (by kernel_rfl) (fun _ _ _ h => h) (Or.inl ⟨by rfl, ?_⟩) hHeld ?_
  rotate_left
  · intro w' hSw; (try dsimp only at hSw); (have x1 : w'.cell? ⟨gX, 1, none⟩ = some (.int .u32 ux) := cellA (Lib.hid hSw) 1; have x2 : w'.cell? ⟨gX, 2, none⟩ = some (.slice Ax d.length cx) := cellA (Lib.hid hSw) 2; have x3 : w'.cell? ⟨gX, 3, none⟩ = some (.int .u8 sx) := cellA (Lib.hid hSw) 3; clear hSw); go_simp; try with_reducible rfl
  simp only [Act.put, List.setIfInBounds_toArray, List.set_cons_zero, List.set_cons_succ]
  refine rgTake (i := 5) (N := some 31) (oi := { dst := some 31, op := Op.fieldAddr 68 (Operand.tmp 5) 3, type := 0, pos := "rom.go:167", after := #[], guard := none }) (v := ?_) #[true, true, true, true, false, true, false, false, false] rfl rfl (by kernel_rfl) (fun _ _ _ h => h) (Or.inl ⟨by rfl, ?_⟩) hHeld ?_
  rotate_left
  · intro w' hSw; (try dsimp only at hSw); (have x1 : w'.cell? ⟨gX, 1, none⟩ = some (.int .u32 ux) := cellA (Lib.hid hSw) 1; have x2 : w'.cell? ⟨gX, 2, none⟩ = some (.slice Ax d.length cx) := cellA (Lib.hid hSw) 2; have x3 : w'.cell? ⟨gX, 3, none⟩ = some (.int .u8 sx) := cellA (Lib.hid hSw) 3; clear hSw); go_simp; try with_reducible rfl
  simp only [Act.put, List.setIfInBounds_toArray, List.set_cons_zero, List.set_cons_succ]
  refine rgTake (i := 6) (N := some 32) (oi := { dst := some 32, op := Op.load 5 (Operand.tmp 31), type := 5, pos := "rom.go:167", after := #[{ on := 5, ground := Ground.data }], guard := none }) (v := ?_) #[true, true, true, true, false, true, true, false, false] rfl rfl (by kernel_rfl) (fun _ _ _ h => h) (Or.inl ⟨by rfl, ?_⟩) hHeld ?_
  rotate_left
  · intro w' hSw; (try dsimp only at hSw); (have x1 : w'.cell? ⟨gX, 1, none⟩ = some (.int .u32 ux) := cellA (Lib.hid hSw) 1; have x2 : w'.cell? ⟨gX, 2, none⟩ = some (.slice Ax d.length cx) := cellA (Lib.hid hSw) 2; have x3 : w'.cell? ⟨gX, 3, none⟩ = some (.int .u8 sx) := cellA (Lib.hid hSw) 3; clear hSw); go_simp; try with_reducible rfl
  simp only [Act.put, List.setIfInBounds_toArray, List.set_cons_zero, List.set_cons_succ]
  refine rgCall (i := 4) (N := some 30) (oi := { dst := some 30, op := Op.call { callee := Callee.value (Operand.func 42), args := #[Operand.tmp 27, Operand.tmp 29], argTypes := #[22, 26] }, type := 5, pos := "rom.go:167", after := #[{ on := 1, ground := Ground.data }, { on := 3, ground := Ground.data }], guard := none }) #[true, true, true, true, true, true, true, false, false] rfl rfl (by kernel_rfl) (fun K hK => ?_)
  go_simp
  (go_at_call 42; refine (cks_own ux cx Ax d _ hux HO.out hd).mono ?_; rw [HCK.out]; rintro e w6 ⟨rfl, hb⟩; replace HB := keepB HB hb; replace HO := keepOB HO hb; replace HEL := Lib.hid (range_below HEL.out hb); replace HSG := Lib.hid (HSG.out.below hb); replace HI := keepA HI hb; replace HL := keepA HL hb; replace HX := keepA HX hb; replace HT := keepA HT hb; clear hb)
  refine hK.out _ _ HX.out (fun hHeld => ?_)
  (try simp only [Act.put, List.setIfInBounds_toArray, List.set_cons_zero, List.set_cons_succ])
  clear hK K
  refine rgTake (i := 7) (N := some 33) (oi := { dst := some 33, op := Op.binOp BinOp.neq 5 (Operand.tmp 30) (Operand.tmp 32) 5, type := 4, pos := "rom.go:167", after := #[{ on := 4, ground := Ground.data }, { on := 6, ground := Ground.data }], guard := none }) (v := ?_) #[true, true, true, true, true, true, true, true, false] rfl rfl (by kernel_rfl) (fun _ _ _ h => h) (Or.inl ⟨by rfl, ?_⟩) hHeld ?_
  rotate_left
  · intro w' hSw; (try dsimp only at hSw); (have x1 : w'.cell? ⟨gX, 1, none⟩ = some (.int .u32 ux) := cellA (Lib.hid hSw) 1; have x2 : w'.cell? ⟨gX, 2, none⟩ = some (.slice Ax d.length cx) := cellA (Lib.hid hSw) 2; have x3 : w'.cell? ⟨gX, 3, none⟩ = some (.int .u8 sx) := cellA (Lib.hid hSw) 3; clear hSw); go_simp; try with_reducible rfl
  simp only [Act.put, List.setIfInBounds_toArray, List.set_cons_zero, List.set_cons_succ]
  refine rgTake (i := 8) (N := some 25) (oi := { dst := some 25, op := Op.assign (Operand.tmp 33), type := 4, pos := "rom.go:167", after := #[{ on := 7, ground := Ground.data }, { on := 4, ground := Ground.chain }], guard := none }) (v := ?_) #[true, true, true, true, true, true, true, true, true] rfl rfl (by kernel_rfl) (fun _ _ _ h => h) (Or.inl ⟨by rfl, ?_⟩) hHeld ?_
  rotate_left
  · intro w' hSw; (try dsimp only at hSw); (have x1 : w'.cell? ⟨gX, 1, none⟩ = some (.int .u32 ux) := cellA (Lib.hid hSw) 1; have x2 : w'.cell? ⟨gX, 2, none⟩ = some (.slice Ax d.length cx) := cellA (Lib.hid hSw) 2; have x3 : w'.cell? ⟨gX, 3, none⟩ = some (.int .u8 sx) := cellA (Lib.hid hSw) 3; clear hSw); go_simp; try with_reducible rfl
  simp only [Act.put, List.setIfInBounds_toArray, List.set_cons_zero, List.set_cons_succ]
  refine rgDone (by kernel_rfl) ?_ _
  have l0 : w6.cell? ⟨gL, 0, none⟩ = some (.string Wl) := cellA HL 0; have l1 : w6.cell? ⟨gL, 1, none⟩ = some (.int .u32 ul) := cellA HL 1; have l2 : w6.cell? ⟨gL, 2, none⟩ = some (.slice Al nl cl) := cellA HL 2; have l3 : w6.cell? ⟨gL, 3, none⟩ = some (.int .u8 sl) := cellA HL 3; have x0 : w6.cell? ⟨gX, 0, none⟩ = some (.string Wx) := cellA HX 0; have x1 : w6.cell? ⟨gX, 1, none⟩ = some (.int .u32 ux) := cellA HX 1; have x2 : w6.cell? ⟨gX, 2, none⟩ = some (.slice Ax d.length cx) := cellA HX 2; have x3 : w6.cell? ⟨gX, 3, none⟩ = some (.int .u8 sx) := cellA HX 3; have i0 : w6.cell? ⟨gI, 0, none⟩ = some (.int .u32 st) := cellA HI 0; have i1 : w6.cell? ⟨gI, 1, none⟩ = some (.slice (some ⟨b, off, none⟩) n c) := cellA HI 1
  go_upto_region 16 with fail
  replace HB := keepB1 HB
  replace HO := Lib.hid (ownk_drew HO.out 1)
  replace HI := keepA1 HI
  replace HL := keepA1 HL
  replace HX := keepA1 HX
  replace HT := keepA1 HT
  replace HEL : Hid (w6.drew.rangeAt b (off + k * 2) (sA m0).toList) := Lib.hid HEL.out
  replace HSG := Lib.hid (HSG.out.drew 1)
  refine rgStart (S := (fun w' => w'.heap[gX]? = some (.cells (rdA Wx ux (.slice Ax d.length cx) sx) 68 (0, 0)) ∧ w'.heap[gI]? = some (.cells (imA st (some ⟨b, off, none⟩) n c) 25 (0, 0)) ∧ w'.rangeAt b (off + k * 2) (sA m0).toList)) (n := 15) #[false, false, false, false, false, false, false, false, false, false, false, false, false, false, false] (by kernel_rfl) rfl rfl ⟨HX.out, HI.out, HEL.out⟩ (fun hHeld => ?_)
  refine rgTake (i := 0) (N := some 87) (oi := { dst := some 87, op := Op.move (Operand.tmp 8), type := 3, pos := "rom.go:182", after := #[], guard := none }) (v := ?_) #[true, false, false, false, false, false, false, false, false, false, false, false, false, false, false] rfl rfl (by kernel_rfl) (fun _ _ _ h => h) (Or.inl ⟨by rfl, ?_⟩) hHeld ?_
  rotate_left
  · intro w' hSw; (try dsimp only at hSw); (have x1 : w'.cell? ⟨gX, 1, none⟩ = some (.int .u32 ux) := cellA (Lib.hid hSw.1) 1; have i1 : w'.cell? ⟨gI, 1, none⟩ = some (.slice (some ⟨b, off, none⟩) n c) := cellA (Lib.hid hSw.2.1) 1; clear hSw); go_simp; try with_reducible rfl
  simp only [Act.put, List.setIfInBounds_toArray, List.set_cons_zero, List.set_cons_succ]
  refine rgTake (i := 1) (N := some 88) (oi := { dst := some 88, op := Op.binOp BinOp.gtr 3 (Operand.tmp 87) (Operand.const (Value.int IntKind.i64 0)) 3, type := 4, pos := "rom.go:182", after := #[{ on := 0, ground := Ground.data }], guard := none }) (v := ?_) #[true, true, false, false, false, false, false, false, false, false, false, false, false, false, false] rfl rfl (by kernel_rfl) (fun _ _ _ h => h) (Or.inl ⟨by rfl, ?_⟩) hHeld ?_
  rotate_left
  · intro w' hSw; (try dsimp only at hSw); (have x1 : w'.cell? ⟨gX, 1, none⟩ = some (.int .u32 ux) := cellA (Lib.hid hSw.1) 1; have i1 : w'.cell? ⟨gI, 1, none⟩ = some (.slice (some ⟨b, off, none⟩) n c) := cellA (Lib.hid hSw.2.1) 1; clear hSw); go_simp; try with_reducible rfl
  simp only [Act.put, List.setIfInBounds_toArray, List.set_cons_zero, List.set_cons_succ]
  refine rgTake (i := 2) (N := some 89) (oi := { dst := some 89, op := Op.move (Operand.tmp 88), type := 4, pos := "rom.go:182", after := #[{ on := 1, ground := Ground.data }], guard := none }) (v := ?_) #[true, true, true, false, false, false, false, false, false, false, false, false, false, false, false] rfl rfl (by kernel_rfl) (fun _ _ _ h => h) (Or.inl ⟨by rfl, ?_⟩) hHeld ?_
  rotate_left
  · intro w' hSw; (try dsimp only at hSw); (have x1 : w'.cell? ⟨gX, 1, none⟩ = some (.int .u32 ux) := cellA (Lib.hid hSw.1) 1; have i1 : w'.cell? ⟨gI, 1, none⟩ = some (.slice (some ⟨b, off, none⟩) n c) := cellA (Lib.hid hSw.2.1) 1; clear hSw); go_simp; try with_reducible rfl
  simp only [Act.put, List.setIfInBounds_toArray, List.set_cons_zero, List.set_cons_succ]
  refine rgTake (i := 3) (N := some 90) (oi := { dst := some 90, op := Op.fieldAddr 68 (Operand.tmp 5) 1, type := 0, pos := "rom.go:182", after := #[{ on := 2, ground := Ground.guard }], guard := some (2, true) }) (v := ?_) #[true, true, true, true, false, false, false, false, false, false, false, false, false, false, false] rfl rfl (by kernel_rfl) (fun _ _ _ h => h) (Or.inl ⟨by rfl, ?_⟩) hHeld ?_
  rotate_left
  · intro w' hSw; (try dsimp only at hSw); (have x1 : w'.cell? ⟨gX, 1, none⟩ = some (.int .u32 ux) := cellA (Lib.hid hSw.1) 1; have i1 : w'.cell? ⟨gI, 1, none⟩ = some (.slice (some ⟨b, off, none⟩) n c) := cellA (Lib.hid hSw.2.1) 1; clear hSw); go_simp; try with_reducible rfl
  simp only [Act.put, List.setIfInBounds_toArray, List.set_cons_zero, List.set_cons_succ]
  refine rgTake (i := 4) (N := some 91) (oi := { dst := some 91, op := Op.load 22 (Operand.tmp 90), type := 22, pos := "rom.go:182", after := #[{ on := 3, ground := Ground.data }, { on := 2, ground := Ground.guard }], guard := some (2, true) }) (v := ?_) #[true, true, true, true, true, false, false, false, false, false, false, false, false, false, false] rfl rfl (by kernel_rfl) (fun _ _ _ h => h) (Or.inl ⟨by rfl, ?_⟩) hHeld ?_
  rotate_left
  · intro w' hSw; (try dsimp only at hSw); (have x1 : w'.cell? ⟨gX, 1, none⟩ = some (.int .u32 ux) := cellA (Lib.hid hSw.1) 1; have i1 : w'.cell? ⟨gI, 1, none⟩ = some (.slice (some ⟨b, off, none⟩) n c) := cellA (Lib.hid hSw.2.1) 1; clear hSw); go_simp; try with_reducible rfl
  simp only [Act.put, List.setIfInBounds_toArray, List.set_cons_zero, List.set_cons_succ]
  refine rgTake (i := 5) (N := some 92) (oi := { dst := some 92, op := Op.convert 22 3 (Operand.tmp 91), type := 3, pos := "rom.go:182", after := #[{ on := 4, ground := Ground.data }, { on := 2, ground := Ground.guard }], guard := some (2, true) }) (v := ?_) #[true, true, true, true, true, true, false, false, false, false, false, false, false, false, false] rfl rfl (by kernel_rfl) (fun _ _ _ h => h) (Or.inl ⟨by rfl, ?_⟩) hHeld ?_
  rotate_left
  · intro w' hSw; (try dsimp only at hSw); (have x1 : w'.cell? ⟨gX, 1, none⟩ = some (.int .u32 ux) := cellA (Lib.hid hSw.1) 1; have i1 : w'.cell? ⟨gI, 1, none⟩ = some (.slice (some ⟨b, off, none⟩) n c) := cellA (Lib.hid hSw.2.1) 1; clear hSw); go_simp; try with_reducible rfl
  simp only [Act.put, List.setIfInBounds_toArray, List.set_cons_zero, List.set_cons_succ]
  refine rgTake (i := 6) (N := some 93) (oi := { dst := some 93, op := Op.fieldAddr 25 (Operand.tmp 3) 1, type := 0, pos := "rom.go:182", after := #[{ on := 2, ground := Ground.guard }], guard := some (2, true) }) (v := ?_) #[true, true, true, true, true, true, true, false, false, false, false, false, false, false, false] rfl rfl (by kernel_rfl) (fun _ _ _ h => h) (Or.inl ⟨by rfl, ?_⟩) hHeld ?_
  rotate_left
  · intro w' hSw; (try dsimp only at hSw); (have x1 : w'.cell? ⟨gX, 1, none⟩ = some (.int .u32 ux) := cellA (Lib.hid hSw.1) 1; have i1 : w'.cell? ⟨gI, 1, none⟩ = some (.slice (some ⟨b, off, none⟩) n c) := cellA (Lib.hid hSw.2.1) 1; clear hSw); go_simp; try with_reducible rfl
  simp only [Act.put, List.setIfInBounds_toArray, List.set_cons_zero, List.set_cons_succ]
  refine rgTake (i := 7) (N := some 94) (oi := { dst := some 94, op := Op.load 23 (Operand.tmp 93), type := 23, pos := "rom.go:182", after := #[{ on := 6, ground := Ground.data }, { on := 2, ground := Ground.guard }], guard := some (2, true) }) (v := ?_) #[true, true, true, true, true, true, true, true, false, false, false, false, false, false, false] rfl rfl (by kernel_rfl) (fun _ _ _ h => h) (Or.inl ⟨by rfl, ?_⟩) hHeld ?_
  rotate_left
  · intro w' hSw; (try dsimp only at hSw); (have x1 : w'.cell? ⟨gX, 1, none⟩ = some (.int .u32 ux) := cellA (Lib.hid hSw.1) 1; have i1 : w'.cell? ⟨gI, 1, none⟩ = some (.slice (some ⟨b, off, none⟩) n c) := cellA (Lib.hid hSw.2.1) 1; clear hSw); go_simp; try with_reducible rfl
  simp only [Act.put, List.setIfInBounds_toArray, List.set_cons_zero, List.set_cons_succ]
  refine rgTake (i := 8) (N := some 95) (oi := { dst := some 95, op := Op.move (Operand.tmp 8), type := 3, pos := "rom.go:182", after := #[{ on := 2, ground := Ground.guard }], guard := some (2, true) }) (v := ?_) #[true, true, true, true, true, true, true, true, true, false, false, false, false, false, false] rfl rfl (by kernel_rfl) (fun _ _ _ h => h) (Or.inl ⟨by rfl, ?_⟩) hHeld ?_
  rotate_left
  · intro w' hSw; (try dsimp only at hSw); (have x1 : w'.cell? ⟨gX, 1, none⟩ = some (.int .u32 ux) := cellA (Lib.hid hSw.1) 1; have i1 : w'.cell? ⟨gI, 1, none⟩ = some (.slice (some ⟨b, off, none⟩) n c) := cellA (Lib.hid hSw.2.1) 1; clear hSw); go_simp; try with_reducible rfl
  simp only [Act.put, List.setIfInBounds_toArray, List.set_cons_zero, List.set_cons_succ]
  refine rgTake (i := 9) (N := some 96) (oi := { dst := some 96, op := Op.binOp BinOp.sub 3 (Operand.tmp 95) (Operand.const (Value.int IntKind.i64 1)) 3, type := 3, pos := "rom.go:182", after := #[{ on := 8, ground := Ground.data }, { on := 2, ground := Ground.guard }], guard := some (2, true) }) (v := ?_) #[true, true, true, true, true, true, true, true, true, true, false, false, false, false, false] rfl rfl (by kernel_rfl) (fun _ _ _ h => h) (Or.inl ⟨by rfl, ?_⟩) hHeld ?_
  rotate_left
  · intro w' hSw; (try dsimp only at hSw); (have x1 : w'.cell? ⟨gX, 1, none⟩ = some (.int .u32 ux) := cellA (Lib.hid hSw.1) 1; have i1 : w'.cell? ⟨gI, 1, none⟩ = some (.slice (some ⟨b, off, none⟩) n c) := cellA (Lib.hid hSw.2.1) 1; clear hSw); go_simp; try with_reducible rfl
  simp only [Act.put, List.setIfInBounds_toArray, List.set_cons_zero, List.set_cons_succ]
  refine rgTake (i := 10) (N := some 97) (oi := { dst := some 97, op := Op.indexAddr 23 (Operand.tmp 94) (Operand.tmp 96), type := 0, pos := "rom.go:182", after := #[{ on := 7, ground := Ground.data }, { on := 9, ground := Ground.data }, { on := 2, ground := Ground.guard }], guard := some (2, true) }) (v := _) #[true, true, true, true, true, true, true, true, true, true, true, false, false, false, false] rfl rfl (by kernel_rfl) (fun _ _ _ h => h) (yieldsIdx (by rfl) 23 _ _ rfl 51 2 Tryd.underlying23 sizeSeg b off n c k rfl rfl hkn) hHeld ?_
  simp only [Act.put, List.setIfInBounds_toArray, List.set_cons_zero, List.set_cons_succ]
  refine rgTake (i := 11) (N := some 98) (oi := { dst := some 98, op := Op.load 51 (Operand.tmp 97), type := 51, pos := "rom.go:182", after := #[{ on := 10, ground := Ground.data }, { on := 2, ground := Ground.guard }], guard := some (2, true) }) (v := _) #[true, true, true, true, true, true, true, true, true, true, true, true, false, false, false] rfl rfl (by kernel_rfl) (fun _ _ _ h => h) (yieldsMid (by rfl) 51 _ rfl b (off + k * 2) rfl (sA m0) (fun w' h => h.2.2) Tryd.underlying51 rfl infoSeg) hHeld ?_
  simp only [Act.put, List.setIfInBounds_toArray, List.set_cons_zero, List.set_cons_succ]
  refine rgCall (i := 12) (N := some 99) (oi := { dst := some 99, op := Op.call { callee := Callee.value (Operand.func 37), args := #[Operand.tmp 98], argTypes := #[51] }, type := 3, pos := "rom.go:182", after := #[{ on := 11, ground := Ground.data }, { on := 2, ground := Ground.chain }, { on := 2, ground := Ground.guard }], guard := some (2, true) }) #[true, true, true, true, true, true, true, true, true, true, true, true, true, false, false] rfl rfl (by kernel_rfl) (fun K hK => ?_)
  go_simp
  (go_at_call 37; refine (HEN.out _).mono ?_; rintro e w7 ⟨rfl, hb⟩; replace HB := keepB HB hb; replace HO := keepOB HO hb; replace HSG := Lib.hid (HSG.out.below hb); replace HEL := Lib.hid (range_below HEL.out hb); replace HI := keepA HI hb; replace HL := keepA HL hb; replace HX := keepA HX hb; replace HT := keepA HT hb; clear hb)
  refine hK.out _ _ ⟨HX.out, HI.out, HEL.out⟩ (fun hHeld => ?_)
  (try simp only [Act.put, List.setIfInBounds_toArray, List.set_cons_zero, List.set_cons_succ])
  clear hK K
  refine rgTake (i := 13) (N := some 100) (oi := { dst := some 100, op := Op.binOp BinOp.lss 3 (Operand.tmp 92) (Operand.tmp 99) 3, type := 4, pos := "rom.go:182", after := #[{ on := 5, ground := Ground.data }, { on := 12, ground := Ground.data }, { on := 2, ground := Ground.guard }], guard := some (2, true) }) (v := ?_) #[true, true, true, true, true, true, true, true, true, true, true, true, true, true, false] rfl rfl (by kernel_rfl) (fun _ _ _ h => h) (Or.inl ⟨by rfl, ?_⟩) hHeld ?_
  rotate_left
  · intro w' hSw; (try dsimp only at hSw); (have x1 : w'.cell? ⟨gX, 1, none⟩ = some (.int .u32 ux) := cellA (Lib.hid hSw.1) 1; have i1 : w'.cell? ⟨gI, 1, none⟩ = some (.slice (some ⟨b, off, none⟩) n c) := cellA (Lib.hid hSw.2.1) 1; clear hSw); go_simp; try with_reducible rfl
  simp only [Act.put, List.setIfInBounds_toArray, List.set_cons_zero, List.set_cons_succ]
  refine rgTake (i := 14) (N := some 101) (oi := { dst := some 101, op := Op.pick (Operand.tmp 89) (Operand.tmp 100) (Operand.const (Value.bool false)), type := 4, pos := "rom.go:182", after := #[{ on := 2, ground := Ground.data }, { on := 13, ground := Ground.data }], guard := none }) (v := ?_) #[true, true, true, true, true, true, true, true, true, true, true, true, true, true, true] rfl rfl (by kernel_rfl) (fun _ _ _ h => h) (Or.inl ⟨by rfl, ?_⟩) hHeld ?_
  rotate_left
  · intro w' hSw; (try dsimp only at hSw); (have x1 : w'.cell? ⟨gX, 1, none⟩ = some (.int .u32 ux) := cellA (Lib.hid hSw.1) 1; have i1 : w'.cell? ⟨gI, 1, none⟩ = some (.slice (some ⟨b, off, none⟩) n c) := cellA (Lib.hid hSw.2.1) 1; clear hSw); go_simp; try with_reducible rfl
  simp only [Act.put, List.setIfInBounds_toArray, List.set_cons_zero, List.set_cons_succ]
  refine rgDone (by kernel_rfl) ?_ _
  have l0 : w7.cell? ⟨gL, 0, none⟩ = some (.string Wl) := cellA HL 0; have l1 : w7.cell? ⟨gL, 1, none⟩ = some (.int .u32 ul) := cellA HL 1; have l2 : w7.cell? ⟨gL, 2, none⟩ = some (.slice Al nl cl) := cellA HL 2; have l3 : w7.cell? ⟨gL, 3, none⟩ = some (.int .u8 sl) := cellA HL 3; have x0 : w7.cell? ⟨gX, 0, none⟩ = some (.string Wx) := cellA HX 0; have x1 : w7.cell? ⟨gX, 1, none⟩ = some (.int .u32 ux) := cellA HX 1; have x2 : w7.cell? ⟨gX, 2, none⟩ = some (.slice Ax d.length cx) := cellA HX 2; have x3 : w7.cell? ⟨gX, 3, none⟩ = some (.int .u8 sx) := cellA HX 3; have i0 : w7.cell? ⟨gI, 0, none⟩ = some (.int .u32 st) := cellA HI 0; have i1 : w7.cell? ⟨gI, 1, none⟩ = some (.slice (some ⟨b, off, none⟩) n c) := cellA HI 1
  go_upto_region 17 with fail
  go_wp2_with (refine rowStore ?_ 25 _ _ rfl gT rfl (imA st (some ⟨b, off, none⟩) n c) rfl HT.out infoIm rfl (imA_one _ _ _ _) ?_; exact rfl; intro w9 ha ho; have HT0 := HT; replace HT := Lib.hid ha; replace HB := keepBo HB HGT.out ho; clear ha ho)
  exact bodyPost_ret (res1c rfl _ _ gT 25 (imA st (some ⟨b, off, none⟩) n c) (0, 0) _ rfl HT.out Tryd.underlying25 rfl infoIm) rfl ⟨rfl, HB.out.1⟩
set_option maxRecDepth 100000 in
set_option maxHeartbeats 2000000 in
theorem next_i2 (st n c : Nat) (S : Option Addr) (Wl : ByteArray) (ul nl cl sl : Nat) (Al : Option Addr) (Wx : ByteArray) (ux cx sx : Nat) (Ax : Option Addr) (d : List UInt8) (w : World) (Bx : Nat) (hO : OwnB w Bx (.slice Ax d.length cx) d) (hul : ul < 4294967296) (hux : ux < 4294967296) (hsx : sx < 256) (hnl : nl ≤ 1000000) (hd : d.length ≤ 1000000) (hn : n ≤ 1000000) (q1 : (Wl.toList == [115, 116, 97, 114, 116]) = false) (q2 : (Wx.toList == [97, 110, 100]) = false) (q3 : (Wx.toList == [115, 116, 97, 114, 116]) = false) (q4 : (Wx.toList == [115, 101, 103]) = true) (hk : ckV ux d = sx) (B : Nat) (ms : List SegM) (hS : SegsAt w B (.slice S n c) ms) (hms : ms.length = n) (hB : B ≤ w.heap.size) (hBx : B ≤ Bx) (hap : ∀ a ∈ ms, ∀ k, (dV a).ownBlock = some k → (dV ⟨ux, Ax, cx, d⟩).ownBlock ≠ some k) (hrg : ux + d.length ≤ 16384) (k : Nat) (m0 : SegM) (hm0 : ms[k]? = some m0) (hk1 : n = k + 1) (h64 : n ≠ 64) (hc : ¬ ux < m0.at_ + m0.d.length) : Calls Tryd.prog 33 #[.agg (imA st S n c), .agg (rdA Wl ul (.slice Al nl cl) sl), .agg (rdA Wx ux (.slice Ax d.length cx) sx)] w fun e w' => ∃ S' c', e = .returned (.tuple #[.agg (imA st S' (n + 1) c'), .int .i64 0]) ∧ SegsAt w' B (.slice S' (n + 1) c') (ms ++ [⟨ux, Ax, cx, d⟩]) ∧ Kp B w w' := by
  have HB := startB w
  have HO := Lib.hid hO
  clear hO
  obtain ⟨A0, C0, hv0, hrd⟩ := hS.rd
  injection hv0 with hv1 hv2 hv3
  subst hv1
  have hm0s := List.mem_of_getElem? hm0
  obtain ⟨b, off, hSb, _, _⟩ := hrd.1.2.2 (by omega)
  have hel : w.rangeAt b (off + k * 2) (sA m0).toList := RwA.at_ (hSb ▸ hrd.1) (by omega) (sA_get hm0)
  obtain ⟨e1, e2, _, _⟩ := hrd.2 m0 hm0s
  subst hSb
  obtain ⟨E, hE⟩ : ∃ E, m0.at_ + m0.d.length = E := ⟨_, rfl⟩
  rw [hE] at hc
  have HEN : Hid (∀ w, Calls Tryd.prog 37 #[.agg (sA m0)] w fun e w' => e = .returned (.int .i64 ((E : Nat) : Int)) ∧ Below w.heap.size w w') := Lib.hid (fun w => hE ▸ end_any m0 w e1 e2)
  have HEL := Lib.hid hel
  have hkn : k < n := by omega
  have e7 : IntKind.i64.wrap ((n : Int) - 1) = (k : Int) := by rw [IntKind.wrap_i64]; omega
  have e8 : IntKind.i64.wrap (ux : Int) = (ux : Int) := by rw [IntKind.wrap_i64]; omega
  have q8 : decide (0 < n) = true := decide_eq_true (by omega)
  have q9 : 0 < n := by omega
  clear hrd hel hE hm0s hm0 hk1 hv2 hv3 e1 e2
  have HSG := Lib.hid hS
  have HN := Lib.hid hms
  have HBB := Lib.hid hB
  have HBX := Lib.hid hBx
  have HAP := Lib.hid hap
  clear hS hms hap hB hBx
  have HCK := Lib.hid hk
  clear hk
  have n1 : ((n : Int) == 64) = false := beq_eq_false_iff_ne.2 (by omega)
  clear h64
  have q5 : decide (ux < E) = false := decide_eq_false (by omega)
  go_enter Tryd.func33, Tryd.ntmps33
  go_upto_region 1 with (first | (refine wlBox ?_ 25 _ rfl (imA st (some ⟨b, off, none⟩) n c) rfl ?_; exact rfl; intro gI w1 hg hl ha hb; replace HB := keepB HB hb; replace HO := keepOB HO hb; replace HEL := Lib.hid (range_below HEL.out hb); replace HSG := Lib.hid (HSG.out.below hb); have HI := Lib.hid ha; have HGI : Hid (w.heap.size ≤ gI) := Lib.hid hg; clear ha hb hg hl) | (refine wlBox ?_ 68 _ rfl (rdA Wl ul (.slice Al nl cl) sl) rfl ?_; exact rfl; intro gL w2 hg hl ha hb; replace HB := keepB HB hb; replace HO := keepOB HO hb; replace HEL := Lib.hid (range_below HEL.out hb); replace HSG := Lib.hid (HSG.out.below hb); have HIL : Hid (gI < gL) := Lib.hid (Nat.lt_of_lt_of_le (Array.getElem?_eq_some_iff.1 HI.out).1 hg); replace HI := keepA HI hb; have HL := Lib.hid ha; clear ha hb hg hl) | (refine wlBox ?_ 68 _ rfl (rdA Wx ux (.slice Ax d.length cx) sx) rfl ?_; exact rfl; intro gX w3 hg hl ha hb; replace HB := keepB HB hb; replace HO := keepOB HO hb; replace HEL := Lib.hid (range_below HEL.out hb); replace HSG := Lib.hid (HSG.out.below hb); have HIX : Hid (gI < gX) := Lib.hid (Nat.lt_of_lt_of_le (Array.getElem?_eq_some_iff.1 HI.out).1 hg); replace HI := keepA HI hb; replace HL := keepA HL hb; have HX := Lib.hid ha; clear ha hb hg hl) | (refine wlAlloc ?_ 25 rfl (imA 0 none 0 0) zeroIm ?_; exact rfl; intro gT w4 hg hl ha hb; have HGT : Hid (w.heap.size ≤ gT) := Lib.hid (Nat.le_trans HB.out.2 hg); have HTX : Hid (gI < gT) := Lib.hid (Nat.lt_of_lt_of_le (Array.getElem?_eq_some_iff.1 HI.out).1 hg); have HTI : Hid (gT ≠ gI) := Lib.hid (Nat.ne_of_gt (Nat.lt_of_lt_of_le (Array.getElem?_eq_some_iff.1 HI.out).1 hg)); have HTX2 : Hid (gT ≠ gX) := Lib.hid (Nat.ne_of_gt (Nat.lt_of_lt_of_le (Array.getElem?_eq_some_iff.1 HX.out).1 hg)); replace HB := keepB HB hb; replace HO := keepOB HO hb; replace HEL := Lib.hid (range_below HEL.out hb); replace HSG := Lib.hid (HSG.out.below hb); replace HI := keepA HI hb; replace HL := keepA HL hb; replace HX := keepA HX hb; have HT := Lib.hid ha; have l0 : w4.cell? ⟨gL, 0, none⟩ = some (.string Wl) := cellA HL 0; have l1 : w4.cell? ⟨gL, 1, none⟩ = some (.int .u32 ul) := cellA HL 1; have l2 : w4.cell? ⟨gL, 2, none⟩ = some (.slice Al nl cl) := cellA HL 2; have l3 : w4.cell? ⟨gL, 3, none⟩ = some (.int .u8 sl) := cellA HL 3; have x0 : w4.cell? ⟨gX, 0, none⟩ = some (.string Wx) := cellA HX 0; have x1 : w4.cell? ⟨gX, 1, none⟩ = some (.int .u32 ux) := cellA HX 1; have x2 : w4.cell? ⟨gX, 2, none⟩ = some (.slice Ax d.length cx) := cellA HX 2; have x3 : w4.cell? ⟨gX, 3, none⟩ = some (.int .u8 sx) := cellA HX 3; have i0 : w4.cell? ⟨gI, 0, none⟩ = some (.int .u32 st) := cellA HI 0; have i1 : w4.cell? ⟨gI, 1, none⟩ = some (.slice (some ⟨b, off, none⟩) n c) := cellA HI 1; clear ha hb hg hl))
  go_wp2
  replace HB := keepB1 HB
  replace HO := Lib.hid (ownk_drew HO.out 1)
  replace HI := keepA1 HI
  replace HL := keepA1 HL
  replace HX := keepA1 HX
  replace HT := keepA1 HT
  replace HSG := Lib.hid (HSG.out.drew 1)
  replace HEL : Hid (w4.drew.rangeAt b (off + k * 2) (sA m0).toList) := Lib.hid HEL.out
  refine rgStart (S := (fun w' => w'.heap[gX]? = some (.cells (rdA Wx ux (.slice Ax d.length cx) sx) 68 (0, 0)))) (n := 9) #[false, false, false, false, false, false, false, false, false] (by kernel_rfl) rfl rfl HX.out (fun hHeld => ?_)
  refine rgTake (i := 0) (N := some 26) (oi := { dst := some 26, op := Op.fieldAddr 68 (Operand.tmp 5) 1, type := 0, pos := "rom.go:167", after := #[], guard := none }) (v := ?_) #[true, false, false, false, false, false, false, false, false] rfl rfl (by kernel_rfl) (fun _ _ _ h => h) (Or.inl ⟨by rfl, ?_⟩) hHeld ?_
  rotate_left
  · intro w' hSw; (try dsimp only at hSw); (have x1 : w'.cell? ⟨gX, 1, none⟩ = some (.int .u32 ux) := cellA (Lib.hid hSw) 1; have x2 : w'.cell? ⟨gX, 2, none⟩ = some (.slice Ax d.length cx) := cellA (Lib.hid hSw) 2; have x3 : w'.cell? ⟨gX, 3, none⟩ = some (.int .u8 sx) := cellA (Lib.hid hSw) 3; clear hSw); go_simp; try with_reducible rfl
  simp only [Act.put, List.setIfInBounds_toArray, List.set_cons_zero, List.set_cons_succ]
  refine rgTake (i := 1) (N := some 27) (oi := { dst := some 27, op := Op.load 22 (Operand.tmp 26), type := 22, pos := "rom.go:167", after := #[{ on := 0, ground := Ground.data }], guard := none }) (v := ?_) #[true, true, false, false, false, false, false, false, false] rfl rfl (by kernel_rfl) (fun _ _ _ h => h) (Or.inl ⟨by rfl, ?_⟩) hHeld ?_
  rotate_left
  · intro w' hSw; (try dsimp only at hSw); (have x1 : w'.cell? ⟨gX, 1, none⟩ = some (.int .u32 ux) := cellA (Lib.hid hSw) 1; have x2 : w'.cell? ⟨gX, 2, none⟩ = some (.slice Ax d.length cx) := cellA (Lib.hid hSw) 2; have x3 : w'.cell? ⟨gX, 3, none⟩ = some (.int .u8 sx) := cellA (Lib.hid hSw) 3; clear hSw); go_simp; try with_reducible rfl
  simp only [Act.put, List.setIfInBounds_toArray, List.set_cons_zero, List.set_cons_succ]
  refine rgTake (i := 2) (N := some 28) (oi := { dst := some 28, op := Op.fieldAddr 68 (Operand.tmp 5) 2, type := 0, pos := "rom.go:167", after := #[], guard := none }) (v := ?_) #[true, true, true, false, false, false, false, false, false] rfl rfl (by kernel_rfl) (fun _ _ _ h => h) (Or.inl ⟨by rfl, ?_⟩) hHeld ?_
  rotate_left
  · intro w' hSw; (try dsimp only at hSw); (have x1 : w'.cell? ⟨gX, 1, none⟩ = some (.int .u32 ux) := cellA (Lib.hid hSw) 1; have x2 : w'.cell? ⟨gX, 2, none⟩ = some (.slice Ax d.length cx) := cellA (Lib.hid hSw) 2; have x3 : w'.cell? ⟨gX, 3, none⟩ = some (.int .u8 sx) := cellA (Lib.hid hSw) 3; clear hSw); go_simp; try with_reducible rfl
  simp only [Act.put, List.setIfInBounds_toArray, List.set_cons_zero, List.set_cons_succ]
  refine rgTake (i := 3) (N := some 29) (oi := { dst := some 29, op := Op.load 26 (Operand.tmp 28), type := 26, pos := "rom.go:167", after := #[{ on := 2, ground := Ground.data }], guard := none }) (v := ?_) #[true, true, true, true, false, false, false, false, false] rfl rfl (by kernel_rfl) (fun _ _ _ h => h) (Or.inl ⟨by rfl, ?_⟩) hHeld ?_
  rotate_left
  · intro w' hSw; (try dsimp only at hSw); (have x1 : w'.cell? ⟨gX, 1, none⟩ = some (.int .u32 ux) := cellA (Lib.hid hSw) 1; have x2 : w'.cell? ⟨gX, 2, none⟩ = some (.slice Ax d.length cx) := cellA (Lib.hid hSw) 2; have x3 : w'.cell? ⟨gX, 3, none⟩ = some (.int .u8 sx) := cellA (Lib.hid hSw) 3; clear hSw); go_simp; try with_reducible rfl
  simp only [Act.put, List.setIfInBounds_toArray, List.set_cons_zero, List.set_cons_succ]
  refine rgTake (i := 5) (N := some 31) (oi := { dst := some 31, op := Op.fieldAddr 68 (Operand.tmp 5) 3, type := 0, pos := "rom.go:167", after := #[], guard := none }) (v := ?_) #[true, true, true, true, false, true, false, false, false] rfl rfl (by kernel_rfl) (fun _ _ _ h => h) (Or.inl ⟨by rfl, ?_⟩) hHeld ?_
  rotate_left
  · intro w' hSw; (try dsimp only at hSw); (have x1 : w'.cell? ⟨gX, 1, none⟩ = some (.int .u32 ux) := cellA (Lib.hid hSw) 1; have x2 : w'.cell? ⟨gX, 2, none⟩ = some (.slice Ax d.length cx) := cellA (Lib.hid hSw) 2; have x3 : w'.cell? ⟨gX, 3, none⟩ = some (.int .u8 sx) := cellA (Lib.hid hSw) 3; clear hSw); go_simp; try with_reducible rfl
  simp only [Act.put, List.setIfInBounds_toArray, List.set_cons_zero, List.set_cons_succ]
  refine rgTake (i := 6) (N := some 32) (oi := { dst := some 32, op := Op.load 5 (Operand.tmp 31), type := 5, pos := "rom.go:167", after := #[{ on := 5, ground := Ground.data }], guard := none }) (v := ?_) #[true, true, true, true, false, true, true, false, false] rfl rfl (by kernel_rfl) (fun _ _ _ h => h) (Or.inl ⟨by rfl, ?_⟩) hHeld ?_
  rotate_left
  · intro w' hSw; (try dsimp only at hSw); (have x1 : w'.cell? ⟨gX, 1, none⟩ = some (.int .u32 ux) := cellA (Lib.hid hSw) 1; have x2 : w'.cell? ⟨gX, 2, none⟩ = some (.slice Ax d.length cx) := cellA (Lib.hid hSw) 2; have x3 : w'.cell? ⟨gX, 3, none⟩ = some (.int .u8 sx) := cellA (Lib.hid hSw) 3; clear hSw); go_simp; try with_reducible rfl
  simp only [Act.put, List.setIfInBounds_toArray, List.set_cons_zero, List.set_cons_succ]
  refine rgCall (i := 4) (N := some 30) (oi := { dst := some 30, op := Op.call { callee := Callee.value (Operand.func 42), args := #[Operand.tmp 27, Operand.tmp 29], argTypes := #[22, 26] }, type := 5, pos := "rom.go:167", after := #[{ on := 1, ground := Ground.data }, { on := 3, ground := Ground.data }], guard := none }) #[true, true, true, true, true, true, true, false, false] rfl rfl (by kernel_rfl) (fun K hK => ?_)
  go_simp
  (go_at_call 42; refine (cks_own ux cx Ax d _ hux HO.out hd).mono ?_; rw [HCK.out]; rintro e w6 ⟨rfl, hb⟩; replace HB := keepB HB hb; replace HO := keepOB HO hb; replace HEL := Lib.hid (range_below HEL.out hb); replace HSG := Lib.hid (HSG.out.below hb); replace HI := keepA HI hb; replace HL := keepA HL hb; replace HX := keepA HX hb; replace HT := keepA HT hb; clear hb)
  refine hK.out _ _ HX.out (fun hHeld => ?_)
  (try simp only [Act.put, List.setIfInBounds_toArray, List.set_cons_zero, List.set_cons_succ])
  clear hK K
  refine rgTake (i := 7) (N := some 33) (oi := { dst := some 33, op := Op.binOp BinOp.neq 5 (Operand.tmp 30) (Operand.tmp 32) 5, type := 4, pos := "rom.go:167", after := #[{ on := 4, ground := Ground.data }, { on := 6, ground := Ground.data }], guard := none }) (v := ?_) #[true, true, true, true, true, true, true, true, false] rfl rfl (by kernel_rfl) (fun _ _ _ h => h) (Or.inl ⟨by rfl, ?_⟩) hHeld ?_
  rotate_left
  · intro w' hSw; (try dsimp only at hSw); (have x1 : w'.cell? ⟨gX, 1, none⟩ = some (.int .u32 ux) := cellA (Lib.hid hSw) 1; have x2 : w'.cell? ⟨gX, 2, none⟩ = some (.slice Ax d.length cx) := cellA (Lib.hid hSw) 2; have x3 : w'.cell? ⟨gX, 3, none⟩ = some (.int .u8 sx) := cellA (Lib.hid hSw) 3; clear hSw); go_simp; try with_reducible rfl
  simp only [Act.put, List.setIfInBounds_toArray, List.set_cons_zero, List.set_cons_succ]
  refine rgTake (i := 8) (N := some 25) (oi := { dst := some 25, op := Op.assign (Operand.tmp 33), type := 4, pos := "rom.go:167", after := #[{ on := 7, ground := Ground.data }, { on := 4, ground := Ground.chain }], guard := none }) (v := ?_) #[true, true, true, true, true, true, true, true, true] rfl rfl (by kernel_rfl) (fun _ _ _ h => h) (Or.inl ⟨by rfl, ?_⟩) hHeld ?_
  rotate_left
  · intro w' hSw; (try dsimp only at hSw); (have x1 : w'.cell? ⟨gX, 1, none⟩ = some (.int .u32 ux) := cellA (Lib.hid hSw) 1; have x2 : w'.cell? ⟨gX, 2, none⟩ = some (.slice Ax d.length cx) := cellA (Lib.hid hSw) 2; have x3 : w'.cell? ⟨gX, 3, none⟩ = some (.int .u8 sx) := cellA (Lib.hid hSw) 3; clear hSw); go_simp; try with_reducible rfl
  simp only [Act.put, List.setIfInBounds_toArray, List.set_cons_zero, List.set_cons_succ]
  refine rgDone (by kernel_rfl) ?_ _
  have l0 : w6.cell? ⟨gL, 0, none⟩ = some (.string Wl) := cellA HL 0; have l1 : w6.cell? ⟨gL, 1, none⟩ = some (.int .u32 ul) := cellA HL 1; have l2 : w6.cell? ⟨gL, 2, none⟩ = some (.slice Al nl cl) := cellA HL 2; have l3 : w6.cell? ⟨gL, 3, none⟩ = some (.int .u8 sl) := cellA HL 3; have x0 : w6.cell? ⟨gX, 0, none⟩ = some (.string Wx) := cellA HX 0; have x1 : w6.cell? ⟨gX, 1, none⟩ = some (.int .u32 ux) := cellA HX 1; have x2 : w6.cell? ⟨gX, 2, none⟩ = some (.slice Ax d.length cx) := cellA HX 2; have x3 : w6.cell? ⟨gX, 3, none⟩ = some (.int .u8 sx) := cellA HX 3; have i0 : w6.cell? ⟨gI, 0, none⟩ = some (.int .u32 st) := cellA HI 0; have i1 : w6.cell? ⟨gI, 1, none⟩ = some (.slice (some ⟨b, off, none⟩) n c) := cellA HI 1
  go_upto_region 16 with fail
  replace HB := keepB1 HB
  replace HO := Lib.hid (ownk_drew HO.out 1)
  replace HI := keepA1 HI
  replace HL := keepA1 HL
  replace HX := keepA1 HX
  replace HT := keepA1 HT
  replace HEL : Hid (w6.drew.rangeAt b (off + k * 2) (sA m0).toList) := Lib.hid HEL.out
  replace HSG := Lib.hid (HSG.out.drew 1)
  refine rgStart (S := (fun w' => w'.heap[gX]? = some (.cells (rdA Wx ux (.slice Ax d.length cx) sx) 68 (0, 0)) ∧ w'.heap[gI]? = some (.cells (imA st (some ⟨b, off, none⟩) n c) 25 (0, 0)) ∧ w'.rangeAt b (off + k * 2) (sA m0).toList)) (n := 15) #[false, false, false, false, false, false, false, false, false, false, false, false, false, false, false] (by kernel_rfl) rfl rfl ⟨HX.out, HI.out, HEL.out⟩ (fun hHeld => ?_)
  refine rgTake (i := 0) (N := some 87) (oi := { dst := some 87, op := Op.move (Operand.tmp 8), type := 3, pos := "rom.go:182", after := #[], guard := none }) (v := ?_) #[true, false, false, false, false, false, false, false, false, false, false, false, false, false, false] rfl rfl (by kernel_rfl) (fun _ _ _ h => h) (Or.inl ⟨by rfl, ?_⟩) hHeld ?_
  rotate_left
  · intro w' hSw; (try dsimp only at hSw); (have x1 : w'.cell? ⟨gX, 1, none⟩ = some (.int .u32 ux) := cellA (Lib.hid hSw.1) 1; have i1 : w'.cell? ⟨gI, 1, none⟩ = some (.slice (some ⟨b, off, none⟩) n c) := cellA (Lib.hid hSw.2.1) 1; clear hSw); go_simp; try with_reducible rfl
  simp only [Act.put, List.setIfInBounds_toArray, List.set_cons_zero, List.set_cons_succ]
  refine rgTake (i := 1) (N := some 88) (oi := { dst := some 88, op := Op.binOp BinOp.gtr 3 (Operand.tmp 87) (Operand.const (Value.int IntKind.i64 0)) 3, type := 4, pos := "rom.go:182", after := #[{ on := 0, ground := Ground.data }], guard := none }) (v := ?_) #[true, true, false, false, false, false, false, false, false, false, false, false, false, false, false] rfl rfl (by kernel_rfl) (fun _ _ _ h => h) (Or.inl ⟨by rfl, ?_⟩) hHeld ?_
  rotate_left
  · intro w' hSw; (try dsimp only at hSw); (have x1 : w'.cell? ⟨gX, 1, none⟩ = some (.int .u32 ux) := cellA (Lib.hid hSw.1) 1; have i1 : w'.cell? ⟨gI, 1, none⟩ = some (.slice (some ⟨b, off, none⟩) n c) := cellA (Lib.hid hSw.2.1) 1; clear hSw); go_simp; try with_reducible rfl
  simp only [Act.put, List.setIfInBounds_toArray, List.set_cons_zero, List.set_cons_succ]
  refine rgTake (i := 2) (N := some 89) (oi := { dst := some 89, op := Op.move (Operand.tmp 88), type := 4, pos := "rom.go:182", after := #[{ on := 1, ground := Ground.data }], guard := none }) (v := ?_) #[true, true, true, false, false, false, false, false, false, false, false, false, false, false, false] rfl rfl (by kernel_rfl) (fun _ _ _ h => h) (Or.inl ⟨by rfl, ?_⟩) hHeld ?_
  rotate_left
  · intro w' hSw; (try dsimp only at hSw); (have x1 : w'.cell? ⟨gX, 1, none⟩ = some (.int .u32 ux) := cellA (Lib.hid hSw.1) 1; have i1 : w'.cell? ⟨gI, 1, none⟩ = some (.slice (some ⟨b, off, none⟩) n c) := cellA (Lib.hid hSw.2.1) 1; clear hSw); go_simp; try with_reducible rfl
  simp only [Act.put, List.setIfInBounds_toArray, List.set_cons_zero, List.set_cons_succ]
  refine rgTake (i := 3) (N := some 90) (oi := { dst := some 90, op := Op.fieldAddr 68 (Operand.tmp 5) 1, type := 0, pos := "rom.go:182", after := #[{ on := 2, ground := Ground.guard }], guard := some (2, true) }) (v := ?_) #[true, true, true, true, false, false, false, false, false, false, false, false, false, false, false] rfl rfl (by kernel_rfl) (fun _ _ _ h => h) (Or.inl ⟨by rfl, ?_⟩) hHeld ?_
  rotate_left
  · intro w' hSw; (try dsimp only at hSw); (have x1 : w'.cell? ⟨gX, 1, none⟩ = some (.int .u32 ux) := cellA (Lib.hid hSw.1) 1; have i1 : w'.cell? ⟨gI, 1, none⟩ = some (.slice (some ⟨b, off, none⟩) n c) := cellA (Lib.hid hSw.2.1) 1; clear hSw); go_simp; try with_reducible rfl
  simp only [Act.put, List.setIfInBounds_toArray, List.set_cons_zero, List.set_cons_succ]
  refine rgTake (i := 4) (N := some 91) (oi := { dst := some 91, op := Op.load 22 (Operand.tmp 90), type := 22, pos := "rom.go:182", after := #[{ on := 3, ground := Ground.data }, { on := 2, ground := Ground.guard }], guard := some (2, true) }) (v := ?_) #[true, true, true, true, true, false, false, false, false, false, false, false, false, false, false] rfl rfl (by kernel_rfl) (fun _ _ _ h => h) (Or.inl ⟨by rfl, ?_⟩) hHeld ?_
  rotate_left
  · intro w' hSw; (try dsimp only at hSw); (have x1 : w'.cell? ⟨gX, 1, none⟩ = some (.int .u32 ux) := cellA (Lib.hid hSw.1) 1; have i1 : w'.cell? ⟨gI, 1, none⟩ = some (.slice (some ⟨b, off, none⟩) n c) := cellA (Lib.hid hSw.2.1) 1; clear hSw); go_simp; try with_reducible rfl
  simp only [Act.put, List.setIfInBounds_toArray, List.set_cons_zero, List.set_cons_succ]
  refine rgTake (i := 5) (N := some 92) (oi := { dst := some 92, op := Op.convert 22 3 (Operand.tmp 91), type := 3, pos := "rom.go:182", after := #[{ on := 4, ground := Ground.data }, { on := 2, ground := Ground.guard }], guard := some (2, true) }) (v := ?_) #[true, true, true, true, true, true, false, false, false, false, false, false, false, false, false] rfl rfl (by kernel_rfl) (fun _ _ _ h => h) (Or.inl ⟨by rfl, ?_⟩) hHeld ?_
  rotate_left
  · intro w' hSw; (try dsimp only at hSw); (have x1 : w'.cell? ⟨gX, 1, none⟩ = some (.int .u32 ux) := cellA (Lib.hid hSw.1) 1; have i1 : w'.cell? ⟨gI, 1, none⟩ = some (.slice (some ⟨b, off, none⟩) n c) := cellA (Lib.hid hSw.2.1) 1; clear hSw); go_simp; try with_reducible rfl
  simp only [Act.put, List.setIfInBounds_toArray, List.set_cons_zero, List.set_cons_succ]
  refine rgTake (i := 6) (N := some 93) (oi := { dst := some 93, op := Op.fieldAddr 25 (Operand.tmp 3) 1, type := 0, pos := "rom.go:182", after := #[{ on := 2, ground := Ground.guard }], guard := some (2, true) }) (v := ?_) #[true, true, true, true, true, true, true, false, false, false, false, false, false, false, false] rfl rfl (by kernel_rfl) (fun _ _ _ h => h) (Or.inl ⟨by rfl, ?_⟩) hHeld ?_
  rotate_left
  · intro w' hSw; (try dsimp only at hSw); (have x1 : w'.cell? ⟨gX, 1, none⟩ = some (.int .u32 ux) := cellA (Lib.hid hSw.1) 1; have i1 : w'.cell? ⟨gI, 1, none⟩ = some (.slice (some ⟨b, off, none⟩) n c) := cellA (Lib.hid hSw.2.1) 1; clear hSw); go_simp; try with_reducible rfl
  simp only [Act.put, List.setIfInBounds_toArray, List.set_cons_zero, List.set_cons_succ]
  refine rgTake (i := 7) (N := some 94) (oi := { dst := some 94, op := Op.load 23 (Operand.tmp 93), type := 23, pos := "rom.go:182", after := #[{ on := 6, ground := Ground.data }, { on := 2, ground := Ground.guard }], guard := some (2, true) }) (v := ?_) #[true, true, true, true, true, true, true, true, false, false, false, false, false, false, false] rfl rfl (by kernel_rfl) (fun _ _ _ h => h) (Or.inl ⟨by rfl, ?_⟩) hHeld ?_
  rotate_left
  · intro w' hSw; (try dsimp only at hSw); (have x1 : w'.cell? ⟨gX, 1, none⟩ = some (.int .u32 ux) := cellA (Lib.hid hSw.1) 1; have i1 : w'.cell? ⟨gI, 1, none⟩ = some (.slice (some ⟨b, off, none⟩) n c) := cellA (Lib.hid hSw.2.1) 1; clear hSw); go_simp; try with_reducible rfl
  simp only [Act.put, List.setIfInBounds_toArray, List.set_cons_zero, List.set_cons_succ]
  refine rgTake (i := 8) (N := some 95) (oi := { dst := some 95, op := Op.move (Operand.tmp 8), type := 3, pos := "rom.go:182", after := #[{ on := 2, ground := Ground.guard }], guard := some (2, true) }) (v := ?_) #[true, true, true, true, true, true, true, true, true, false, false, false, false, false, false] rfl rfl (by kernel_rfl) (fun _ _ _ h => h) (Or.inl ⟨by rfl, ?_⟩) hHeld ?_
  rotate_left
  · intro w' hSw; (try dsimp only at hSw); (have x1 : w'.cell? ⟨gX, 1, none⟩ = some (.int .u32 ux) := cellA (Lib.hid hSw.1) 1; have i1 : w'.cell? ⟨gI, 1, none⟩ = some (.slice (some ⟨b, off, none⟩) n c) := cellA (Lib.hid hSw.2.1) 1; clear hSw); go_simp; try with_reducible rfl
  simp only [Act.put, List.setIfInBounds_toArray, List.set_cons_zero, List.set_cons_succ]
  refine rgTake (i := 9) (N := some 96) (oi := { dst := some 96, op := Op.binOp BinOp.sub 3 (Operand.tmp 95) (Operand.const (Value.int IntKind.i64 1)) 3, type := 3, pos := "rom.go:182", after := #[{ on := 8, ground := Ground.data }, { on := 2, ground := Ground.guard }], guard := some (2, true) }) (v := ?_) #[true, true, true, true, true, true, true, true, true, true, false, false, false, false, false] rfl rfl (by kernel_rfl) (fun _ _ _ h => h) (Or.inl ⟨by rfl, ?_⟩) hHeld ?_
  rotate_left
  · intro w' hSw; (try dsimp only at hSw); (have x1 : w'.cell? ⟨gX, 1, none⟩ = some (.int .u32 ux) := cellA (Lib.hid hSw.1) 1; have i1 : w'.cell? ⟨gI, 1, none⟩ = some (.slice (some ⟨b, off, none⟩) n c) := cellA (Lib.hid hSw.2.1) 1; clear hSw); go_simp; try with_reducible rfl
  simp only [Act.put, List.setIfInBounds_toArray, List.set_cons_zero, List.set_cons_succ]
  refine rgTake (i := 10) (N := some 97) (oi := { dst := some 97, op := Op.indexAddr 23 (Operand.tmp 94) (Operand.tmp 96), type := 0, pos := "rom.go:182", after := #[{ on := 7, ground := Ground.data }, { on := 9, ground := Ground.data }, { on := 2, ground := Ground.guard }], guard := some (2, true) }) (v := _) #[true, true, true, true, true, true, true, true, true, true, true, false, false, false, false] rfl rfl (by kernel_rfl) (fun _ _ _ h => h) (yieldsIdx (by rfl) 23 _ _ rfl 51 2 Tryd.underlying23 sizeSeg b off n c k rfl rfl hkn) hHeld ?_
  simp only [Act.put, List.setIfInBounds_toArray, List.set_cons_zero, List.set_cons_succ]
  refine rgTake (i := 11) (N := some 98) (oi := { dst := some 98, op := Op.load 51 (Operand.tmp 97), type := 51, pos := "rom.go:182", after := #[{ on := 10, ground := Ground.data }, { on := 2, ground := Ground.guard }], guard := some (2, true) }) (v := _) #[true, true, true, true, true, true, true, true, true, true, true, true, false, false, false] rfl rfl (by kernel_rfl) (fun _ _ _ h => h) (yieldsMid (by rfl) 51 _ rfl b (off + k * 2) rfl (sA m0) (fun w' h => h.2.2) Tryd.underlying51 rfl infoSeg) hHeld ?_
  simp only [Act.put, List.setIfInBounds_toArray, List.set_cons_zero, List.set_cons_succ]
  refine rgCall (i := 12) (N := some 99) (oi := { dst := some 99, op := Op.call { callee := Callee.value (Operand.func 37), args := #[Operand.tmp 98], argTypes := #[51] }, type := 3, pos := "rom.go:182", after := #[{ on := 11, ground := Ground.data }, { on := 2, ground := Ground.chain }, { on := 2, ground := Ground.guard }], guard := some (2, true) }) #[true, true, true, true, true, true, true, true, true, true, true, true, true, false, false] rfl rfl (by kernel_rfl) (fun K hK => ?_)
  go_simp
  (go_at_call 37; refine (HEN.out _).mono ?_; rintro e w7 ⟨rfl, hb⟩; replace HB := keepB HB hb; replace HO := keepOB HO hb; replace HSG := Lib.hid (HSG.out.below hb); replace HEL := Lib.hid (range_below HEL.out hb); replace HI := keepA HI hb; replace HL := keepA HL hb; replace HX := keepA HX hb; replace HT := keepA HT hb; clear hb)
  refine hK.out _ _ ⟨HX.out, HI.out, HEL.out⟩ (fun hHeld => ?_)
  (try simp only [Act.put, List.setIfInBounds_toArray, List.set_cons_zero, List.set_cons_succ])
  clear hK K
  refine rgTake (i := 13) (N := some 100) (oi := { dst := some 100, op := Op.binOp BinOp.lss 3 (Operand.tmp 92) (Operand.tmp 99) 3, type := 4, pos := "rom.go:182", after := #[{ on := 5, ground := Ground.data }, { on := 12, ground := Ground.data }, { on := 2, ground := Ground.guard }], guard := some (2, true) }) (v := ?_) #[true, true, true, true, true, true, true, true, true, true, true, true, true, true, false] rfl rfl (by kernel_rfl) (fun _ _ _ h => h) (Or.inl ⟨by rfl, ?_⟩) hHeld ?_
  rotate_left
  · intro w' hSw; (try dsimp only at hSw); (have x1 : w'.cell? ⟨gX, 1, none⟩ = some (.int .u32 ux) := cellA (Lib.hid hSw.1) 1; have i1 : w'.cell? ⟨gI, 1, none⟩ = some (.slice (some ⟨b, off, none⟩) n c) := cellA (Lib.hid hSw.2.1) 1; clear hSw); go_simp; try with_reducible rfl
  simp only [Act.put, List.setIfInBounds_toArray, List.set_cons_zero, List.set_cons_succ]
  refine rgTake (i := 14) (N := some 101) (oi := { dst := some 101, op := Op.pick (Operand.tmp 89) (Operand.tmp 100) (Operand.const (Value.bool false)), type := 4, pos := "rom.go:182", after := #[{ on := 2, ground := Ground.data }, { on := 13, ground := Ground.data }], guard := none }) (v := ?_) #[true, true, true, true, true, true, true, true, true, true, true, true, true, true, true] rfl rfl (by kernel_rfl) (fun _ _ _ h => h) (Or.inl ⟨by rfl, ?_⟩) hHeld ?_
  rotate_left
  · intro w' hSw; (try dsimp only at hSw); (have x1 : w'.cell? ⟨gX, 1, none⟩ = some (.int .u32 ux) := cellA (Lib.hid hSw.1) 1; have i1 : w'.cell? ⟨gI, 1, none⟩ = some (.slice (some ⟨b, off, none⟩) n c) := cellA (Lib.hid hSw.2.1) 1; clear hSw); go_simp; try with_reducible rfl
  simp only [Act.put, List.setIfInBounds_toArray, List.set_cons_zero, List.set_cons_succ]
  refine rgDone (by kernel_rfl) ?_ _
  have l0 : w7.cell? ⟨gL, 0, none⟩ = some (.string Wl) := cellA HL 0; have l1 : w7.cell? ⟨gL, 1, none⟩ = some (.int .u32 ul) := cellA HL 1; have l2 : w7.cell? ⟨gL, 2, none⟩ = some (.slice Al nl cl) := cellA HL 2; have l3 : w7.cell? ⟨gL, 3, none⟩ = some (.int .u8 sl) := cellA HL 3; have x0 : w7.cell? ⟨gX, 0, none⟩ = some (.string Wx) := cellA HX 0; have x1 : w7.cell? ⟨gX, 1, none⟩ = some (.int .u32 ux) := cellA HX 1; have x2 : w7.cell? ⟨gX, 2, none⟩ = some (.slice Ax d.length cx) := cellA HX 2; have x3 : w7.cell? ⟨gX, 3, none⟩ = some (.int .u8 sx) := cellA HX 3; have i0 : w7.cell? ⟨gI, 0, none⟩ = some (.int .u32 st) := cellA HI 0; have i1 : w7.cell? ⟨gI, 1, none⟩ = some (.slice (some ⟨b, off, none⟩) n c) := cellA HI 1
  go_upto_region 18 with fail
  go_wp2_with (first | (refine wlLit rfl 23 1 _ rfl #[.int .u32 ux, .slice Ax d.length cx] 51 (fun _ => by kernel_rfl) ?_; intro gS w8 hg1 hg2 ha hb; replace HB := keepB HB hb; replace HO := keepOB HO hb; replace HI := keepA HI hb; replace HX := keepA HX hb; replace HT := keepA HT hb; replace HSG := Lib.hid (HSG.out.below hb); have HLT := Lib.hid ha; have HO2 : Hid (OwnB w8 B (dV ⟨ux, Ax, cx, d⟩) d) := Lib.hid (own_weak HO.out HBX.out); clear ha hb hg1 hg2) | (refine appRow rfl _ _ 23 51 _ 2 32 rfl Tryd.underlying23 infoSeg3 rfl (by decide) B _ n _ rfl (by have := HSG.out.row; rw [HN.out] at this; exact this) #[.int .u32 ux, .slice Ax d.length cx] rfl (sA_one ⟨ux, Ax, cx, d⟩) gS 1 rfl HLT.out (by unfold maxLen; omega) (by omega) (Nat.le_trans HBB.out HB.out.2) ?_; intro v2 w9 ho2 hg2 _; rw [← HN.out] at ho2; have HS2 := Lib.hid (HSG.out.push (m := ⟨ux, Ax, cx, d⟩) HO2.out hrg HAP.out ho2 hg2); have HK : Hid (Kp B w w9) := Lib.hid ((Kp.of HB.out.1 HBB.out).grown HSG.out.row (.inr rfl) hg2); replace HI := keepGrow HI HSG.out.row hg2 (by decide); replace HT := keepGrow HT HSG.out.row hg2 (by decide); obtain ⟨S2, c2, hv2, _⟩ := HS2.out.rd; have hn2 : (ms ++ [(⟨ux, Ax, cx, d⟩ : SegM)]).length = n + 1 := (by rw [List.length_append, HN.out]; try rfl); rw [hn2] at hv2; subst hv2; clear ho2 hg2 hn2) | (refine cellStore rfl 23 _ _ rfl gI 1 rfl (.slice S2 (n + 1) c2) rfl rfl rfl HI.out (by show 1 < 2; decide) infoSS ?_; intro w10 ha ho; replace HS2 := Lib.hid (HS2.out.only ho HI.out (by decide) (by decide)); replace HK := Lib.hid (HK.out.only HGI.out HBB.out ho); replace HI : Hid (w10.heap[gI]? = some (.cells (imA st S2 (n + 1) c2) 25 (0, 0))) := Lib.hid ha; replace HT := keepAo HT HTI.out ho; have i0 : w10.cell? ⟨gI, 0, none⟩ = some (.int .u32 st) := cellA HI 0; have i1 : w10.cell? ⟨gI, 1, none⟩ = some (.slice S2 (n + 1) c2) := cellA HI 1; clear ha ho) | (refine rowStore ?_ 25 _ _ rfl gT rfl (imA st S2 (n + 1) c2) rfl HT.out infoIm rfl (imA_one _ _ _ _) ?_; exact rfl; intro w9 ha ho; have HT0 := HT; replace HT := Lib.hid ha; replace HS2 := Lib.hid (HS2.out.only ho HT0.out (by decide) (by decide)); replace HK := Lib.hid (HK.out.only HGT.out HBB.out ho); clear ha ho))
  exact bodyPost_ret (res1c rfl _ _ gT 25 (imA st S2 (n + 1) c2) (0, 0) _ rfl HT.out Tryd.underlying25 rfl infoIm) rfl ⟨S2, c2, rfl, HS2.out, HK.out⟩
end Go.Proofs.YtnigkecpiolgeaaDoor.My
/- Walk: a line put to an image, the program's: the ways that put it to the segments. -/
set_option linter.unusedVariables false
set_option linter.unusedSimpArgs false
namespace Go.Proofs.YtnigkecpiolgeaaDoor.My
open Go.RowKit
section
variable {P : Program} {ops : Array Oper} {Q : Exit → Act → World → Prop} {md : Region.Mode} {S : World → Prop}
theorem rgCallD {c i : Nat} {N : Option Tmp} {oi : Oper} {fuel : Nat} {l : Array Bool} {a : Act} {w : World} (l' : Array Bool) (hi : ops[i]? = some oi) (hN : oi.dst = N) (hc : callOk md ops l l' i = true)
    (h : ∀ K' : Act → World → Prop, Shut (∀ a w, S w → (Hid (S w) → wpAnyC P md ops Q S c fuel l' a w) → K' a w) → if Region.wanted oi (yielded ops a.tmps) = true then Oper.wp P oi a w K' Q else K' (a.put N undef) w) :
    wpAnyC P md ops Q S c (fuel + 1) l a w := by
  unfold callOk at hc
  rw [Bool.and_eq_true, decide_eq_true_eq, decide_eq_true_eq] at hc
  obtain ⟨h1, rfl⟩ := hc
  subst hN
  refine ⟨fun h0 => (by rw [h1] at h0; cases h0), fun j hj => ?_⟩
  rw [h1] at hj
  have hji : j = i := by simpa using hj
  subst hji
  exact wpOp_step hi (fun K' hK => h K' (fun a w hS hW => hK a w ⟨.inr hS, hW hS⟩))
end
theorem keepNe {w w2 : World} {g k : Nat} {cs cs' : Array Value} {t t' : TypeId} {fr fr' : Nat × Nat} (h : Hid (w.heap[k]? = some (.cells cs t fr))) (hc : Hid (w.heap[g]? = some (.cells cs' t' fr'))) (ht : t ≠ t') (ho : Only g w w2) : Hid (w2.heap[k]? = some (.cells cs t fr)) :=
  (ho.block k (fun e => by
    subst e
    have h1 := h.out
    rw [hc.out] at h1
    injection h1 with h1
    injection h1 with _ e _
    exact ht e.symm)).trans h.out
theorem SegsAt.grow2 {w w1 w2 : World} {B g cap n k : Nat} {ms : List SegM} {m m' : SegM} {cur : Array Value} (hk : ms.length = k) (hn : n = k + 1) (h : SegsAt w B (.slice (some ⟨g, 0, none⟩) n cap) (ms ++ [m])) (hcur : w.heap[g]? = some (.cells cur 51 (0, 0)))
    (hgr : w.grownBy w1 (dV m).ownBlock) (hown : OwnB w1 B (dV m') m'.d) (hat : m'.at_ = m.at_) (hs : m'.at_ + m'.d.length ≤ 16384) (hblk : (dV m').ownBlock = (dV m).ownBlock ∨ (dV m').ownBlock = some w.heap.size)
    (h2 : w2.heap[g]? = some (.cells (cur.setIfInBounds (k * 2 + 1) (dV m')) 51 (0, 0))) (ho : Only g w1 w2) : SegsAt w2 B (.slice (some ⟨g, 0, none⟩) n cap) (ms ++ [m']) := by
  subst hk; subst hn
  rw [Nat.mul_comm] at h2
  exact SegsAt.grow h hcur hgr hown hat hs hblk h2 ho
set_option maxRecDepth 100000 in
set_option maxHeartbeats 2000000 in
theorem next_g (st n c : Nat) (S : Option Addr) (Wl : ByteArray) (ul nl cl sl : Nat) (Al : Option Addr) (Wx : ByteArray) (ux cx sx : Nat) (Ax : Option Addr) (d : List UInt8) (w : World) (Bx : Nat) (hO : OwnB w Bx (.slice Ax d.length cx) d) (hul : ul < 4294967296) (hux : ux < 4294967296) (hsx : sx < 256) (hnl : nl ≤ 1000000) (hd : d.length ≤ 1000000) (hn : n ≤ 1000000) (q1 : (Wl.toList == [115, 116, 97, 114, 116]) = false) (q2 : (Wx.toList == [97, 110, 100]) = true) (q3 : (Wx.toList == [115, 116, 97, 114, 116]) = false) (q4 : (Wx.toList == [115, 101, 103]) = false) (hg : true = decide (Wl.toList ≠ [] ∧ nl = 16 ∧ ul + 16 = ux)) (hk : ckV ux d = sx) (B : Nat) (ms : List SegM) (m0 : SegM) (k : Nat) (hS : SegsAt w B (.slice S n c) (ms ++ [m0])) (hml : ms.length = k) (hk1 : n = k + 1) (hB : B ≤ w.heap.size) (hA : Ax ≠ none) (hrg : ux + d.length ≤ 16384) (hrg2 : m0.at_ + (m0.d.length + d.length) ≤ 16384) : Calls Tryd.prog 33 #[.agg (imA st S n c), .agg (rdA Wl ul (.slice Al nl cl) sl), .agg (rdA Wx ux (.slice Ax d.length cx) sx)] w fun e w' => e = .returned (.tuple #[.agg (imA st S n c), .int .i64 0]) ∧ (∃ A' c', SegsAt w' B (.slice S n c) (ms ++ [⟨m0.at_, A', c', m0.d ++ d⟩])) ∧ Kp B w w' := by
  have HB := startB w
  have HO := Lib.hid hO
  clear hO
  have HG : Hid (∀ w, Calls Tryd.prog 46 #[.agg (rdA Wl ul (.slice Al nl cl) sl), .agg (rdA Wx ux (.slice Ax d.length cx) sx)] w fun e w' => e = .returned (.bool true) ∧ Below w.heap.size w w') := Lib.hid (fun w => goes_any Wl Wx ul ux nl d.length cl cx sl sx Al Ax w true hg hul hux hnl)
  clear hg
  obtain ⟨g, cap, cur, hv, hbg, hcur, _, hc1⟩ := hS.last
  injection hv with hv1 hv2 hv3
  subst hv1
  obtain ⟨u0, D0, c0, d0⟩ := m0
  have HBG := Lib.hid hbg
  have HC := Lib.hid hcur
  have HC1 : Hid (cur[k * 2 + 1]? = some (.slice D0 d0.length c0)) := Lib.hid (by rw [← hml, Nat.mul_comm]; exact hc1)
  have HCZ : Hid (k * 2 + 1 < cur.size) := Lib.hid (Array.getElem?_eq_some_iff.1 HC1.out).1
  have HML := Lib.hid hml
  have HN1 := Lib.hid hk1
  have HNA := Lib.hid hA
  have hrg3 : u0 + (d0.length + d.length) ≤ 16384 := hrg2
  have HRG : Hid (u0 + (d0 ++ d).length ≤ 16384) := Lib.hid (by rw [List.length_append]; exact hrg3)
  have HSG := Lib.hid hS
  have HBB := Lib.hid hB
  have hkn : k < n := by omega
  have e7 : IntKind.i64.wrap ((n : Int) - 1) = (k : Int) := by rw [IntKind.wrap_i64]; omega
  clear hS hcur hc1 hv2 hv3 hbg hml hk1 hA hB hrg2
  have HCK := Lib.hid hk
  clear hk
  go_enter Tryd.func33, Tryd.ntmps33
  go_upto_region 1 with (first | (refine wlBox ?_ 25 _ rfl (imA st (some ⟨g, 0, none⟩) n c) rfl ?_; exact rfl; intro gI w1 hg hl ha hb; replace HB := keepB HB hb; replace HO := keepOB HO hb; replace HSG := Lib.hid (HSG.out.below hb); replace HC := keepA HC hb; have HI := Lib.hid ha; have HGI : Hid (w.heap.size ≤ gI) := Lib.hid hg; clear ha hb hg hl) | (refine wlBox ?_ 68 _ rfl (rdA Wl ul (.slice Al nl cl) sl) rfl ?_; exact rfl; intro gL w2 hg hl ha hb; replace HB := keepB HB hb; replace HO := keepOB HO hb; replace HSG := Lib.hid (HSG.out.below hb); replace HC := keepA HC hb; have HIL : Hid (gI < gL) := Lib.hid (Nat.lt_of_lt_of_le (Array.getElem?_eq_some_iff.1 HI.out).1 hg); replace HI := keepA HI hb; have HL := Lib.hid ha; clear ha hb hg hl) | (refine wlBox ?_ 68 _ rfl (rdA Wx ux (.slice Ax d.length cx) sx) rfl ?_; exact rfl; intro gX w3 hg hl ha hb; replace HB := keepB HB hb; replace HO := keepOB HO hb; replace HSG := Lib.hid (HSG.out.below hb); replace HC := keepA HC hb; have HIX : Hid (gI < gX) := Lib.hid (Nat.lt_of_lt_of_le (Array.getElem?_eq_some_iff.1 HI.out).1 hg); replace HI := keepA HI hb; replace HL := keepA HL hb; have HX := Lib.hid ha; clear ha hb hg hl) | (refine wlAlloc ?_ 25 rfl (imA 0 none 0 0) zeroIm ?_; exact rfl; intro gT w4 hg hl ha hb; have HGT : Hid (w.heap.size ≤ gT) := Lib.hid (Nat.le_trans HB.out.2 hg); have HTX : Hid (gI < gT) := Lib.hid (Nat.lt_of_lt_of_le (Array.getElem?_eq_some_iff.1 HI.out).1 hg); have HTI : Hid (gT ≠ gI) := Lib.hid (Nat.ne_of_gt (Nat.lt_of_lt_of_le (Array.getElem?_eq_some_iff.1 HI.out).1 hg)); have HTX2 : Hid (gT ≠ gX) := Lib.hid (Nat.ne_of_gt (Nat.lt_of_lt_of_le (Array.getElem?_eq_some_iff.1 HX.out).1 hg)); replace HB := keepB HB hb; replace HO := keepOB HO hb; replace HSG := Lib.hid (HSG.out.below hb); replace HC := keepA HC hb; replace HI := keepA HI hb; replace HL := keepA HL hb; replace HX := keepA HX hb; have HT := Lib.hid ha; have l0 : w4.cell? ⟨gL, 0, none⟩ = some (.string Wl) := cellA HL 0; have l1 : w4.cell? ⟨gL, 1, none⟩ = some (.int .u32 ul) := cellA HL 1; have l2 : w4.cell? ⟨gL, 2, none⟩ = some (.slice Al nl cl) := cellA HL 2; have l3 : w4.cell? ⟨gL, 3, none⟩ = some (.int .u8 sl) := cellA HL 3; have x0 : w4.cell? ⟨gX, 0, none⟩ = some (.string Wx) := cellA HX 0; have x1 : w4.cell? ⟨gX, 1, none⟩ = some (.int .u32 ux) := cellA HX 1; have x2 : w4.cell? ⟨gX, 2, none⟩ = some (.slice Ax d.length cx) := cellA HX 2; have x3 : w4.cell? ⟨gX, 3, none⟩ = some (.int .u8 sx) := cellA HX 3; have i0 : w4.cell? ⟨gI, 0, none⟩ = some (.int .u32 st) := cellA HI 0; have i1 : w4.cell? ⟨gI, 1, none⟩ = some (.slice (some ⟨g, 0, none⟩) n c) := cellA HI 1; clear ha hb hg hl))
  go_wp2_with (go_at_call 46; refine (HG.out _).mono ?_; rintro e w5 ⟨rfl, hb⟩; replace HB := keepB HB hb; replace HO := keepOB HO hb; replace HSG := Lib.hid (HSG.out.below hb); replace HC := keepA HC hb; replace HI := keepA HI hb; replace HL := keepA HL hb; replace HX := keepA HX hb; replace HT := keepA HT hb; have l0 : w5.cell? ⟨gL, 0, none⟩ = some (.string Wl) := cellA HL 0; have l1 : w5.cell? ⟨gL, 1, none⟩ = some (.int .u32 ul) := cellA HL 1; have l2 : w5.cell? ⟨gL, 2, none⟩ = some (.slice Al nl cl) := cellA HL 2; have l3 : w5.cell? ⟨gL, 3, none⟩ = some (.int .u8 sl) := cellA HL 3; have x0 : w5.cell? ⟨gX, 0, none⟩ = some (.string Wx) := cellA HX 0; have x1 : w5.cell? ⟨gX, 1, none⟩ = some (.int .u32 ux) := cellA HX 1; have x2 : w5.cell? ⟨gX, 2, none⟩ = some (.slice Ax d.length cx) := cellA HX 2; have x3 : w5.cell? ⟨gX, 3, none⟩ = some (.int .u8 sx) := cellA HX 3; have i0 : w5.cell? ⟨gI, 0, none⟩ = some (.int .u32 st) := cellA HI 0; have i1 : w5.cell? ⟨gI, 1, none⟩ = some (.slice (some ⟨g, 0, none⟩) n c) := cellA HI 1; clear hb)
  replace HB := keepB1 HB
  replace HO := Lib.hid (ownk_drew HO.out 1)
  replace HI := keepA1 HI
  replace HL := keepA1 HL
  replace HX := keepA1 HX
  replace HT := keepA1 HT
  replace HSG := Lib.hid (HSG.out.drew 1)
  replace HC := keepA1 HC
  refine rgStart (S := (fun w' => w'.heap[gX]? = some (.cells (rdA Wx ux (.slice Ax d.length cx) sx) 68 (0, 0)))) (n := 9) #[false, false, false, false, false, false, false, false, false] (by kernel_rfl) rfl rfl HX.out (fun hHeld => ?_)
  refine rgTake (i := 0) (N := some 26) (oi := { dst := some 26, op := Op.fieldAddr 68 (Operand.tmp 5) 1, type := 0, pos := "rom.go:167", after := #[], guard := none }) (v := ?_) #[true, false, false, false, false, false, false, false, false] rfl rfl (by kernel_rfl) (fun _ _ _ h => h) (Or.inl ⟨by rfl, ?_⟩) hHeld ?_
  rotate_left
  · intro w' hSw; (try dsimp only at hSw); (have x1 : w'.cell? ⟨gX, 1, none⟩ = some (.int .u32 ux) := cellA (Lib.hid hSw) 1; have x2 : w'.cell? ⟨gX, 2, none⟩ = some (.slice Ax d.length cx) := cellA (Lib.hid hSw) 2; have x3 : w'.cell? ⟨gX, 3, none⟩ = some (.int .u8 sx) := cellA (Lib.hid hSw) 3; clear hSw); go_simp; try with_reducible rfl
  simp only [Act.put, List.setIfInBounds_toArray, List.set_cons_zero, List.set_cons_succ]
  refine rgTake (i := 1) (N := some 27) (oi := { dst := some 27, op := Op.load 22 (Operand.tmp 26), type := 22, pos := "rom.go:167", after := #[{ on := 0, ground := Ground.data }], guard := none }) (v := ?_) #[true, true, false, false, false, false, false, false, false] rfl rfl (by kernel_rfl) (fun _ _ _ h => h) (Or.inl ⟨by rfl, ?_⟩) hHeld ?_
  rotate_left
  · intro w' hSw; (try dsimp only at hSw); (have x1 : w'.cell? ⟨gX, 1, none⟩ = some (.int .u32 ux) := cellA (Lib.hid hSw) 1; have x2 : w'.cell? ⟨gX, 2, none⟩ = some (.slice Ax d.length cx) := cellA (Lib.hid hSw) 2; have x3 : w'.cell? ⟨gX, 3, none⟩ = some (.int .u8 sx) := cellA (Lib.hid hSw) 3; clear hSw); go_simp; try with_reducible rfl
  simp only [Act.put, List.setIfInBounds_toArray, List.set_cons_zero, List.set_cons_succ]
  refine rgTake (i := 2) (N := some 28) (oi := { dst := some 28, op := Op.fieldAddr 68 (Operand.tmp 5) 2, type := 0, pos := "rom.go:167", after := #[], guard := none }) (v := ?_) #[true, true, true, false, false, false, false, false, false] rfl rfl (by kernel_rfl) (fun _ _ _ h => h) (Or.inl ⟨by rfl, ?_⟩) hHeld ?_
  rotate_left
  · intro w' hSw; (try dsimp only at hSw); (have x1 : w'.cell? ⟨gX, 1, none⟩ = some (.int .u32 ux) := cellA (Lib.hid hSw) 1; have x2 : w'.cell? ⟨gX, 2, none⟩ = some (.slice Ax d.length cx) := cellA (Lib.hid hSw) 2; have x3 : w'.cell? ⟨gX, 3, none⟩ = some (.int .u8 sx) := cellA (Lib.hid hSw) 3; clear hSw); go_simp; try with_reducible rfl
  simp only [Act.put, List.setIfInBounds_toArray, List.set_cons_zero, List.set_cons_succ]
  refine rgTake (i := 3) (N := some 29) (oi := { dst := some 29, op := Op.load 26 (Operand.tmp 28), type := 26, pos := "rom.go:167", after := #[{ on := 2, ground := Ground.data }], guard := none }) (v := ?_) #[true, true, true, true, false, false, false, false, false] rfl rfl (by kernel_rfl) (fun _ _ _ h => h) (Or.inl ⟨by rfl, ?_⟩) hHeld ?_
  rotate_left
  · intro w' hSw; (try dsimp only at hSw); (have x1 : w'.cell? ⟨gX, 1, none⟩ = some (.int .u32 ux) := cellA (Lib.hid hSw) 1; have x2 : w'.cell? ⟨gX, 2, none⟩ = some (.slice Ax d.length cx) := cellA (Lib.hid hSw) 2; have x3 : w'.cell? ⟨gX, 3, none⟩ = some (.int .u8 sx) := cellA (Lib.hid hSw) 3; clear hSw); go_simp; try with_reducible rfl
  simp only [Act.put, List.setIfInBounds_toArray, List.set_cons_zero, List.set_cons_succ]
  refine rgTake (i := 5) (N := some 31) (oi := { dst := some 31, op := Op.fieldAddr 68 (Operand.tmp 5) 3, type := 0, pos := "rom.go:167", after := #[], guard := none }) (v := ?_) #[true, true, true, true, false, true, false, false, false] rfl rfl (by kernel_rfl) (fun _ _ _ h => h) (Or.inl ⟨by rfl, ?_⟩) hHeld ?_
  rotate_left
  · intro w' hSw; (try dsimp only at hSw); (have x1 : w'.cell? ⟨gX, 1, none⟩ = some (.int .u32 ux) := cellA (Lib.hid hSw) 1; have x2 : w'.cell? ⟨gX, 2, none⟩ = some (.slice Ax d.length cx) := cellA (Lib.hid hSw) 2; have x3 : w'.cell? ⟨gX, 3, none⟩ = some (.int .u8 sx) := cellA (Lib.hid hSw) 3; clear hSw); go_simp; try with_reducible rfl
  simp only [Act.put, List.setIfInBounds_toArray, List.set_cons_zero, List.set_cons_succ]
  refine rgTake (i := 6) (N := some 32) (oi := { dst := some 32, op := Op.load 5 (Operand.tmp 31), type := 5, pos := "rom.go:167", after := #[{ on := 5, ground := Ground.data }], guard := none }) (v := ?_) #[true, true, true, true, false, true, true, false, false] rfl rfl (by kernel_rfl) (fun _ _ _ h => h) (Or.inl ⟨by rfl, ?_⟩) hHeld ?_
  rotate_left
  · intro w' hSw; (try dsimp only at hSw); (have x1 : w'.cell? ⟨gX, 1, none⟩ = some (.int .u32 ux) := cellA (Lib.hid hSw) 1; have x2 : w'.cell? ⟨gX, 2, none⟩ = some (.slice Ax d.length cx) := cellA (Lib.hid hSw) 2; have x3 : w'.cell? ⟨gX, 3, none⟩ = some (.int .u8 sx) := cellA (Lib.hid hSw) 3; clear hSw); go_simp; try with_reducible rfl
  simp only [Act.put, List.setIfInBounds_toArray, List.set_cons_zero, List.set_cons_succ]
  refine rgCall (i := 4) (N := some 30) (oi := { dst := some 30, op := Op.call { callee := Callee.value (Operand.func 42), args := #[Operand.tmp 27, Operand.tmp 29], argTypes := #[22, 26] }, type := 5, pos := "rom.go:167", after := #[{ on := 1, ground := Ground.data }, { on := 3, ground := Ground.data }], guard := none }) #[true, true, true, true, true, true, true, false, false] rfl rfl (by kernel_rfl) (fun K hK => ?_)
  go_simp
  (go_at_call 42; refine (cks_own ux cx Ax d _ hux HO.out hd).mono ?_; rw [HCK.out]; rintro e w6 ⟨rfl, hb⟩; replace HB := keepB HB hb; replace HO := keepOB HO hb; replace HSG := Lib.hid (HSG.out.below hb); replace HC := keepA HC hb; replace HI := keepA HI hb; replace HL := keepA HL hb; replace HX := keepA HX hb; replace HT := keepA HT hb; clear hb)
  refine hK.out _ _ HX.out (fun hHeld => ?_)
  (try simp only [Act.put, List.setIfInBounds_toArray, List.set_cons_zero, List.set_cons_succ])
  clear hK K
  refine rgTake (i := 7) (N := some 33) (oi := { dst := some 33, op := Op.binOp BinOp.neq 5 (Operand.tmp 30) (Operand.tmp 32) 5, type := 4, pos := "rom.go:167", after := #[{ on := 4, ground := Ground.data }, { on := 6, ground := Ground.data }], guard := none }) (v := ?_) #[true, true, true, true, true, true, true, true, false] rfl rfl (by kernel_rfl) (fun _ _ _ h => h) (Or.inl ⟨by rfl, ?_⟩) hHeld ?_
  rotate_left
  · intro w' hSw; (try dsimp only at hSw); (have x1 : w'.cell? ⟨gX, 1, none⟩ = some (.int .u32 ux) := cellA (Lib.hid hSw) 1; have x2 : w'.cell? ⟨gX, 2, none⟩ = some (.slice Ax d.length cx) := cellA (Lib.hid hSw) 2; have x3 : w'.cell? ⟨gX, 3, none⟩ = some (.int .u8 sx) := cellA (Lib.hid hSw) 3; clear hSw); go_simp; try with_reducible rfl
  simp only [Act.put, List.setIfInBounds_toArray, List.set_cons_zero, List.set_cons_succ]
  refine rgTake (i := 8) (N := some 25) (oi := { dst := some 25, op := Op.assign (Operand.tmp 33), type := 4, pos := "rom.go:167", after := #[{ on := 7, ground := Ground.data }, { on := 4, ground := Ground.chain }], guard := none }) (v := ?_) #[true, true, true, true, true, true, true, true, true] rfl rfl (by kernel_rfl) (fun _ _ _ h => h) (Or.inl ⟨by rfl, ?_⟩) hHeld ?_
  rotate_left
  · intro w' hSw; (try dsimp only at hSw); (have x1 : w'.cell? ⟨gX, 1, none⟩ = some (.int .u32 ux) := cellA (Lib.hid hSw) 1; have x2 : w'.cell? ⟨gX, 2, none⟩ = some (.slice Ax d.length cx) := cellA (Lib.hid hSw) 2; have x3 : w'.cell? ⟨gX, 3, none⟩ = some (.int .u8 sx) := cellA (Lib.hid hSw) 3; clear hSw); go_simp; try with_reducible rfl
  simp only [Act.put, List.setIfInBounds_toArray, List.set_cons_zero, List.set_cons_succ]
  refine rgDone (by kernel_rfl) ?_ _
  have l0 : w6.cell? ⟨gL, 0, none⟩ = some (.string Wl) := cellA HL 0; have l1 : w6.cell? ⟨gL, 1, none⟩ = some (.int .u32 ul) := cellA HL 1; have l2 : w6.cell? ⟨gL, 2, none⟩ = some (.slice Al nl cl) := cellA HL 2; have l3 : w6.cell? ⟨gL, 3, none⟩ = some (.int .u8 sl) := cellA HL 3; have x0 : w6.cell? ⟨gX, 0, none⟩ = some (.string Wx) := cellA HX 0; have x1 : w6.cell? ⟨gX, 1, none⟩ = some (.int .u32 ux) := cellA HX 1; have x2 : w6.cell? ⟨gX, 2, none⟩ = some (.slice Ax d.length cx) := cellA HX 2; have x3 : w6.cell? ⟨gX, 3, none⟩ = some (.int .u8 sx) := cellA HX 3; have i0 : w6.cell? ⟨gI, 0, none⟩ = some (.int .u32 st) := cellA HI 0; have i1 : w6.cell? ⟨gI, 1, none⟩ = some (.slice (some ⟨g, 0, none⟩) n c) := cellA HI 1
  go_upto_region 14 with fail
  replace HB := keepB1 HB
  replace HO := Lib.hid (ownk_drew HO.out 1)
  replace HI := keepA1 HI
  replace HL := keepA1 HL
  replace HX := keepA1 HX
  replace HT := keepA1 HT
  replace HSG := Lib.hid (HSG.out.drew 1)
  replace HC := keepA1 HC
  refine rgStartC (S := (fun w' => w'.heap[gX]? = some (.cells (rdA Wx ux (.slice Ax d.length cx) sx) 68 (0, 0)) ∧ w'.heap[gI]? = some (.cells (imA st (some ⟨g, 0, none⟩) n c) 25 (0, 0)) ∧ w'.heap[g]? = some (.cells cur 51 (0, 0)))) (n := 17) 16 #[false, false, false, false, false, false, false, false, false, false, false, false, false, false, false, false, false] (by kernel_rfl) rfl rfl ⟨HX.out, HI.out, HC.out⟩ (fun hHeld => ?_)
  refine rgTakeA (i := 0) (N := some 70) (oi := { dst := some 70, op := Op.fieldAddr 25 (Operand.tmp 3) 1, type := 0, pos := "rom.go:179", after := #[], guard := none }) (v := ?_) #[true, false, false, false, false, false, false, false, false, false, false, false, false, false, false, false, false] rfl rfl (by kernel_rfl) (by kernel_rfl) (fun _ _ _ h => h) (Or.inl ⟨by rfl, ?_⟩) (.inr hHeld.out) ?_
  rotate_left
  · intro w' hSw; clear hSw; go_simp; try with_reducible rfl
  simp only [Act.put, List.setIfInBounds_toArray, List.set_cons_zero, List.set_cons_succ]
  refine rgTakeS (i := 1) (N := some 71) (oi := { dst := some 71, op := Op.load 23 (Operand.tmp 70), type := 23, pos := "rom.go:179", after := #[{ on := 0, ground := Ground.data }], guard := none }) (v := ?_) #[true, true, false, false, false, false, false, false, false, false, false, false, false, false, false, false, false] rfl rfl (by kernel_rfl) (by kernel_rfl) (fun _ _ _ h => h) (Or.inl ⟨by rfl, ?_⟩) hHeld ?_
  rotate_left
  · intro w' hSw; (try dsimp only at hSw); (have x2 : w'.cell? ⟨gX, 2, none⟩ = some (.slice Ax d.length cx) := cellA (Lib.hid hSw.1) 2; have i1 : w'.cell? ⟨gI, 1, none⟩ = some (.slice (some ⟨g, 0, none⟩) n c) := cellA (Lib.hid hSw.2.1) 1; have d1 : w'.cell? ⟨g, k * 2 + 1, none⟩ = some (.slice D0 d0.length c0) := (cellA (Lib.hid hSw.2.2) (k * 2 + 1)).trans HC1.out; clear hSw); go_simp; try with_reducible rfl
  simp only [Act.put, List.setIfInBounds_toArray, List.set_cons_zero, List.set_cons_succ]
  refine rgTakeA (i := 2) (N := some 72) (oi := { dst := some 72, op := Op.move (Operand.tmp 8), type := 3, pos := "rom.go:179", after := #[], guard := none }) (v := ?_) #[true, true, true, false, false, false, false, false, false, false, false, false, false, false, false, false, false] rfl rfl (by kernel_rfl) (by kernel_rfl) (fun _ _ _ h => h) (Or.inl ⟨by rfl, ?_⟩) (.inr hHeld.out) ?_
  rotate_left
  · intro w' hSw; clear hSw; go_simp; try with_reducible rfl
  simp only [Act.put, List.setIfInBounds_toArray, List.set_cons_zero, List.set_cons_succ]
  refine rgTakeA (i := 3) (N := some 73) (oi := { dst := some 73, op := Op.binOp BinOp.sub 3 (Operand.tmp 72) (Operand.const (Value.int IntKind.i64 1)) 3, type := 3, pos := "rom.go:179", after := #[{ on := 2, ground := Ground.data }], guard := none }) (v := ?_) #[true, true, true, true, false, false, false, false, false, false, false, false, false, false, false, false, false] rfl rfl (by kernel_rfl) (by kernel_rfl) (fun _ _ _ h => h) (Or.inl ⟨by rfl, ?_⟩) (.inr hHeld.out) ?_
  rotate_left
  · intro w' hSw; clear hSw; go_simp; try with_reducible rfl
  simp only [Act.put, List.setIfInBounds_toArray, List.set_cons_zero, List.set_cons_succ]
  refine rgTakeA (i := 4) (N := some 74) (oi := { dst := some 74, op := Op.fieldAddr 25 (Operand.tmp 3) 1, type := 0, pos := "rom.go:179", after := #[], guard := none }) (v := ?_) #[true, true, true, true, true, false, false, false, false, false, false, false, false, false, false, false, false] rfl rfl (by kernel_rfl) (by kernel_rfl) (fun _ _ _ h => h) (Or.inl ⟨by rfl, ?_⟩) (.inr hHeld.out) ?_
  rotate_left
  · intro w' hSw; clear hSw; go_simp; try with_reducible rfl
  simp only [Act.put, List.setIfInBounds_toArray, List.set_cons_zero, List.set_cons_succ]
  refine rgTakeS (i := 5) (N := some 75) (oi := { dst := some 75, op := Op.load 23 (Operand.tmp 74), type := 23, pos := "rom.go:179", after := #[{ on := 4, ground := Ground.data }], guard := none }) (v := ?_) #[true, true, true, true, true, true, false, false, false, false, false, false, false, false, false, false, false] rfl rfl (by kernel_rfl) (by kernel_rfl) (fun _ _ _ h => h) (Or.inl ⟨by rfl, ?_⟩) hHeld ?_
  rotate_left
  · intro w' hSw; (try dsimp only at hSw); (have x2 : w'.cell? ⟨gX, 2, none⟩ = some (.slice Ax d.length cx) := cellA (Lib.hid hSw.1) 2; have i1 : w'.cell? ⟨gI, 1, none⟩ = some (.slice (some ⟨g, 0, none⟩) n c) := cellA (Lib.hid hSw.2.1) 1; have d1 : w'.cell? ⟨g, k * 2 + 1, none⟩ = some (.slice D0 d0.length c0) := (cellA (Lib.hid hSw.2.2) (k * 2 + 1)).trans HC1.out; clear hSw); go_simp; try with_reducible rfl
  simp only [Act.put, List.setIfInBounds_toArray, List.set_cons_zero, List.set_cons_succ]
  refine rgTakeA (i := 6) (N := some 76) (oi := { dst := some 76, op := Op.move (Operand.tmp 8), type := 3, pos := "rom.go:179", after := #[], guard := none }) (v := ?_) #[true, true, true, true, true, true, true, false, false, false, false, false, false, false, false, false, false] rfl rfl (by kernel_rfl) (by kernel_rfl) (fun _ _ _ h => h) (Or.inl ⟨by rfl, ?_⟩) (.inr hHeld.out) ?_
  rotate_left
  · intro w' hSw; clear hSw; go_simp; try with_reducible rfl
  simp only [Act.put, List.setIfInBounds_toArray, List.set_cons_zero, List.set_cons_succ]
  refine rgTakeA (i := 7) (N := some 77) (oi := { dst := some 77, op := Op.binOp BinOp.sub 3 (Operand.tmp 76) (Operand.const (Value.int IntKind.i64 1)) 3, type := 3, pos := "rom.go:179", after := #[{ on := 6, ground := Ground.data }], guard := none }) (v := ?_) #[true, true, true, true, true, true, true, true, false, false, false, false, false, false, false, false, false] rfl rfl (by kernel_rfl) (by kernel_rfl) (fun _ _ _ h => h) (Or.inl ⟨by rfl, ?_⟩) (.inr hHeld.out) ?_
  rotate_left
  · intro w' hSw; clear hSw; go_simp; try with_reducible rfl
  simp only [Act.put, List.setIfInBounds_toArray, List.set_cons_zero, List.set_cons_succ]
  refine rgTakeA (i := 8) (N := some 78) (oi := { dst := some 78, op := Op.indexAddr 23 (Operand.tmp 75) (Operand.tmp 77), type := 0, pos := "rom.go:179", after := #[{ on := 5, ground := Ground.data }, { on := 7, ground := Ground.data }], guard := none }) (v := _) #[true, true, true, true, true, true, true, true, true, false, false, false, false, false, false, false, false] rfl rfl (by kernel_rfl) (by kernel_rfl) (fun _ _ _ h => h) (yieldsIdx0 (by rfl) 23 _ _ rfl 51 2 Tryd.underlying23 sizeSeg g n c k rfl rfl hkn) (.inr hHeld.out) ?_
  simp only [Act.put, List.setIfInBounds_toArray, List.set_cons_zero, List.set_cons_succ]
  refine rgTakeA (i := 9) (N := some 79) (oi := { dst := some 79, op := Op.fieldAddr 51 (Operand.tmp 78) 1, type := 0, pos := "rom.go:179", after := #[{ on := 8, ground := Ground.data }], guard := none }) (v := ?_) #[true, true, true, true, true, true, true, true, true, true, false, false, false, false, false, false, false] rfl rfl (by kernel_rfl) (by kernel_rfl) (fun _ _ _ h => h) (Or.inl ⟨by rfl, ?_⟩) (.inr hHeld.out) ?_
  rotate_left
  · intro w' hSw; clear hSw; go_simp; try with_reducible rfl
  simp only [Act.put, List.setIfInBounds_toArray, List.set_cons_zero, List.set_cons_succ]
  refine rgTakeS (i := 10) (N := some 80) (oi := { dst := some 80, op := Op.load 26 (Operand.tmp 79), type := 26, pos := "rom.go:179", after := #[{ on := 9, ground := Ground.data }], guard := none }) (v := ?_) #[true, true, true, true, true, true, true, true, true, true, true, false, false, false, false, false, false] rfl rfl (by kernel_rfl) (by kernel_rfl) (fun _ _ _ h => h) (Or.inl ⟨by rfl, ?_⟩) hHeld ?_
  rotate_left
  · intro w' hSw; (try dsimp only at hSw); (have x2 : w'.cell? ⟨gX, 2, none⟩ = some (.slice Ax d.length cx) := cellA (Lib.hid hSw.1) 2; have i1 : w'.cell? ⟨gI, 1, none⟩ = some (.slice (some ⟨g, 0, none⟩) n c) := cellA (Lib.hid hSw.2.1) 1; have d1 : w'.cell? ⟨g, k * 2 + 1, none⟩ = some (.slice D0 d0.length c0) := (cellA (Lib.hid hSw.2.2) (k * 2 + 1)).trans HC1.out; clear hSw); go_simp; try with_reducible rfl
  simp only [Act.put, List.setIfInBounds_toArray, List.set_cons_zero, List.set_cons_succ]
  refine rgTakeA (i := 11) (N := some 81) (oi := { dst := some 81, op := Op.fieldAddr 68 (Operand.tmp 5) 2, type := 0, pos := "rom.go:179", after := #[], guard := none }) (v := ?_) #[true, true, true, true, true, true, true, true, true, true, true, true, false, false, false, false, false] rfl rfl (by kernel_rfl) (by kernel_rfl) (fun _ _ _ h => h) (Or.inl ⟨by rfl, ?_⟩) (.inr hHeld.out) ?_
  rotate_left
  · intro w' hSw; clear hSw; go_simp; try with_reducible rfl
  simp only [Act.put, List.setIfInBounds_toArray, List.set_cons_zero, List.set_cons_succ]
  refine rgTakeS (i := 12) (N := some 82) (oi := { dst := some 82, op := Op.load 26 (Operand.tmp 81), type := 26, pos := "rom.go:179", after := #[{ on := 11, ground := Ground.data }], guard := none }) (v := ?_) #[true, true, true, true, true, true, true, true, true, true, true, true, true, false, false, false, false] rfl rfl (by kernel_rfl) (by kernel_rfl) (fun _ _ _ h => h) (Or.inl ⟨by rfl, ?_⟩) hHeld ?_
  rotate_left
  · intro w' hSw; (try dsimp only at hSw); (have x2 : w'.cell? ⟨gX, 2, none⟩ = some (.slice Ax d.length cx) := cellA (Lib.hid hSw.1) 2; have i1 : w'.cell? ⟨gI, 1, none⟩ = some (.slice (some ⟨g, 0, none⟩) n c) := cellA (Lib.hid hSw.2.1) 1; have d1 : w'.cell? ⟨g, k * 2 + 1, none⟩ = some (.slice D0 d0.length c0) := (cellA (Lib.hid hSw.2.2) (k * 2 + 1)).trans HC1.out; clear hSw); go_simp; try with_reducible rfl
  simp only [Act.put, List.setIfInBounds_toArray, List.set_cons_zero, List.set_cons_succ]
  refine rgCallD (i := 13) (N := some 83) (oi := { dst := some 83, op := Op.call { callee := Callee.builtin Builtin.append, args := #[Operand.tmp 80, Operand.tmp 82], argTypes := #[26, 26] }, type := 26, pos := "rom.go:179", after := #[{ on := 10, ground := Ground.data }, { on := 12, ground := Ground.data }], guard := none }) #[true, true, true, true, true, true, true, true, true, true, true, true, true, true, false, false, false] rfl rfl (by kernel_rfl) (fun K hK => ?_)
  refine rgAppB (by rfl) _ _ rfl B _ d0 rfl (HSG.out.inn ⟨u0, D0, c0, d0⟩ (by simp)) Ax cx d rfl HO.out HNA.out (by omega) (Nat.le_trans HBB.out HB.out.2) ?_; intro v2 w7 h1 h2 h3; have HINN := Lib.hid (HSG.out.inn ⟨u0, D0, c0, d0⟩ (by simp)); have HC0 := HC; have HGR := Lib.hid h2; have HK : Hid (Kp B w w7) := Lib.hid ((Kp.of HB.out.1 HBB.out).grown HINN.out (.inl rfl) h2); replace HI := keepGrow HI HINN.out h2 (by decide); replace HX := keepGrow HX HINN.out h2 (by decide); replace HT := keepGrow HT HINN.out h2 (by decide); replace HC := keepGrow HC HINN.out h2 (by decide); obtain ⟨A2, c2, rfl⟩ := own_val h1; have HOWN : Hid (OwnB w7 B (dV ⟨u0, A2, c2, d0 ++ d⟩) (d0 ++ d)) := Lib.hid (by have := own_cap h1; rw [this.1] at h1; have h4 : OwnB w7 B (.slice A2 (d0 ++ d).length c2) (d0 ++ d) := h1; exact h4); have HBLK : Hid ((dV ⟨u0, A2, c2, d0 ++ d⟩).ownBlock = (dV ⟨u0, D0, c0, d0⟩).ownBlock ∨ (dV ⟨u0, A2, c2, d0 ++ d⟩).ownBlock = some _) := Lib.hid h3; clear h1 h2 h3
  refine hK.out _ _ ⟨HX.out, HI.out, HC.out⟩ (fun hHeld => ?_)
  (try simp only [Act.put, List.setIfInBounds_toArray, List.set_cons_zero, List.set_cons_succ])
  clear hK K
  refine rgTakeA (i := 14) (N := some 84) (oi := { dst := some 84, op := Op.indexAddr 23 (Operand.tmp 71) (Operand.tmp 73), type := 0, pos := "rom.go:179", after := #[{ on := 1, ground := Ground.data }, { on := 3, ground := Ground.data }, { on := 0, ground := Ground.phase }, { on := 1, ground := Ground.phase }, { on := 2, ground := Ground.phase }, { on := 3, ground := Ground.phase }, { on := 4, ground := Ground.phase }, { on := 5, ground := Ground.phase }, { on := 6, ground := Ground.phase }, { on := 7, ground := Ground.phase }, { on := 8, ground := Ground.phase }, { on := 9, ground := Ground.phase }, { on := 10, ground := Ground.phase }, { on := 11, ground := Ground.phase }, { on := 12, ground := Ground.phase }, { on := 13, ground := Ground.phase }], guard := none }) (v := _) #[true, true, true, true, true, true, true, true, true, true, true, true, true, true, true, false, false] rfl rfl (by kernel_rfl) (by kernel_rfl) (fun _ _ _ h => h) (yieldsIdx0 (by rfl) 23 _ _ rfl 51 2 Tryd.underlying23 sizeSeg g n c k rfl rfl hkn) (.inr hHeld.out) ?_
  simp only [Act.put, List.setIfInBounds_toArray, List.set_cons_zero, List.set_cons_succ]
  refine rgTakeA (i := 15) (N := some 85) (oi := { dst := some 85, op := Op.fieldAddr 51 (Operand.tmp 84) 1, type := 0, pos := "rom.go:179", after := #[{ on := 14, ground := Ground.data }, { on := 0, ground := Ground.phase }, { on := 1, ground := Ground.phase }, { on := 2, ground := Ground.phase }, { on := 3, ground := Ground.phase }, { on := 4, ground := Ground.phase }, { on := 5, ground := Ground.phase }, { on := 6, ground := Ground.phase }, { on := 7, ground := Ground.phase }, { on := 8, ground := Ground.phase }, { on := 9, ground := Ground.phase }, { on := 10, ground := Ground.phase }, { on := 11, ground := Ground.phase }, { on := 12, ground := Ground.phase }, { on := 13, ground := Ground.phase }], guard := none }) (v := ?_) #[true, true, true, true, true, true, true, true, true, true, true, true, true, true, true, true, false] rfl rfl (by kernel_rfl) (by kernel_rfl) (fun _ _ _ h => h) (Or.inl ⟨by rfl, ?_⟩) (.inr hHeld.out) ?_
  rotate_left
  · intro w' hSw; clear hSw; go_simp; try with_reducible rfl
  simp only [Act.put, List.setIfInBounds_toArray, List.set_cons_zero, List.set_cons_succ]
  refine rgCallC (i := 16) (N := none) (oi := { dst := none, op := Op.store 26 (Operand.tmp 85) (Operand.tmp 83), type := 0, pos := "rom.go:179", after := #[{ on := 15, ground := Ground.data }, { on := 13, ground := Ground.data }, { on := 13, ground := Ground.chain }, { on := 0, ground := Ground.phase }, { on := 1, ground := Ground.phase }, { on := 2, ground := Ground.phase }, { on := 3, ground := Ground.phase }, { on := 4, ground := Ground.phase }, { on := 5, ground := Ground.phase }, { on := 6, ground := Ground.phase }, { on := 7, ground := Ground.phase }, { on := 8, ground := Ground.phase }, { on := 9, ground := Ground.phase }, { on := 10, ground := Ground.phase }, { on := 11, ground := Ground.phase }, { on := 12, ground := Ground.phase }, { on := 13, ground := Ground.phase }], guard := none }) #[true, true, true, true, true, true, true, true, true, true, true, true, true, true, true, true, true] rfl rfl (by kernel_rfl) (by rfl) (fun K hK => ?_)
  refine rgCell (by rfl) 26 _ _ rfl g (k * 2 + 1) rfl (.slice A2 (d0 ++ d).length c2) rfl rfl rfl HC.out HCZ.out infoSB ?_; intro w8 ha ho; have HS2 : Hid (SegsAt w8 B (.slice (some ⟨g, 0, none⟩) n c) (ms ++ [⟨u0, A2, c2, d0 ++ d⟩])) := Lib.hid (SegsAt.grow2 HML.out HN1.out HSG.out HC0.out HGR.out HOWN.out rfl HRG.out HBLK.out ha ho); replace HK := Lib.hid (HK.out.typed HBG.out HC.out (.inr rfl) ho); replace HT := keepNe HT HC (by decide) ho; replace HI := keepNe HI HC (by decide) ho; clear ha ho
  refine hK.out _ _ ?_
  clear hK K
  refine rgDoneC (by kernel_rfl) ?_ _
  have i0 : w8.cell? ⟨gI, 0, none⟩ = some (.int .u32 st) := cellA HI 0
  have i1 : w8.cell? ⟨gI, 1, none⟩ = some (.slice (some ⟨g, 0, none⟩) n c) := cellA HI 1
  go_wp2_with (refine rowStore ?_ 25 _ _ rfl gT rfl (imA st (some ⟨g, 0, none⟩) n c) rfl HT.out infoIm rfl (imA_one _ _ _ _) ?_; exact rfl; intro w9 ha ho; have HT0 := HT; replace HT := Lib.hid ha; replace HS2 := Lib.hid (HS2.out.only ho HT0.out (by decide) (by decide)); replace HK := Lib.hid (HK.out.only HGT.out HBB.out ho); clear ha ho)
  exact bodyPost_ret (res1c rfl _ _ gT 25 (imA st (some ⟨g, 0, none⟩) n c) (0, 0) _ rfl HT.out Tryd.underlying25 rfl infoIm) rfl ⟨rfl, ⟨A2, c2, HS2.out⟩, HK.out⟩
end Go.Proofs.YtnigkecpiolgeaaDoor.My
/- Walk: a line put to an image, the program's: whole. -/
set_option linter.unusedVariables false
set_option linter.unusedSimpArgs false
namespace Go.Proofs.YtnigkecpiolgeaaDoor.My
open Go.RowKit
def endV (ss : List SegV) : Nat := match ss.getLast? with
  | none => 0
  | some s => s.at_ + s.d.length
/-- A line's error, behind an image. -/
def moreV (ss : List SegV) (last x : RowV) : Nat :=
  if x.kind = 0 ∨ last.kind = 3 then 2
  else if x.kind = 2 ∧ ¬ (last.kind ≠ 0 ∧ last.b.length = 16 ∧ last.at_ + 16 = x.at_) then 2
  else if ckV x.at_ x.b ≠ x.sum then 11
  else if x.kind = 3 then 0
  else if x.kind = 1 ∧ ss.length = 64 then 4
  else if 16384 < x.at_ + x.b.length then 3
  else if x.kind = 1 ∧ x.at_ < endV ss then 7
  else 0
def putV (ss : List SegV) (x : RowV) : List SegV :=
  if x.kind = 1 then ss ++ [⟨x.at_, x.b⟩] else if x.kind = 2 then (match ss.getLast? with
    | none => ss
    | some s => ss.dropLast ++ [⟨s.at_, s.d ++ x.b⟩]) else ss
def NextIs (B st : Nat) (ss : List SegV) (last x : RowV) (w : World) (e : Ending) (w' : World) : Prop :=
  (moreV ss last x ≠ 0 ∧ (∃ S' n' c', e = .returned (.tuple #[.agg (imA st S' n' c'), .int .i64 (moreV ss last x : Nat)])) ∧ Kp B w w') ∨
  (moreV ss last x = 0 ∧ ∃ (S' : Option Addr) (c' : Nat) (ms' : List SegM), e = .returned (.tuple #[.agg (imA (if x.kind = 3 then x.at_ else st) S' ms'.length c'), .int .i64 0]) ∧ ms'.map SegM.v = putV ss x ∧ SegsAt w' B (.slice S' ms'.length c') ms' ∧ Kp B w w')
theorem kind_eq (k : Nat) (q : List UInt8) : ((bs (kindW k)).toList == q) = (kindW k == q) := text_eq _ _
theorem next_any (st c : Nat) (S : Option Addr) (ms : List SegM) (last x : RowV) (Al Ax : Option Addr) (cl cx : Nat) (w : World) (B Bx : Nat) (hS : SegsAt w B (.slice S ms.length c) ms) (hB : B ≤ w.heap.size) (hBx : B ≤ Bx)
    (hO : OwnB w Bx (.slice Ax x.b.length cx) x.b) (hfr : ∀ a ∈ ms, ∀ k, (dV a).ownBlock = some k → k < Bx) (hx : RowOk x) (hl : last.kind ≤ 3) (hl2 : last.at_ < 4294967296) (hl3 : last.b.length ≤ 16) (hm : ms.length ≤ 64)
    (hE : last.kind = 1 ∨ last.kind = 2 → endV (ms.map SegM.v) = last.at_ + last.b.length ∧ ms ≠ []) :
    Calls Tryd.prog 33 #[.agg (imA st S ms.length c), .agg (rdA (bs (kindW last.kind)) last.at_ (.slice Al last.b.length cl) last.sum), .agg (rdA (bs (kindW x.kind)) x.at_ (.slice Ax x.b.length cx) x.sum)] w (NextIs B st (ms.map SegM.v) last x w) := by
  obtain ⟨xk, u, d, s⟩ := x
  obtain ⟨hx1, hu, hs⟩ := hx
  simp only at hx1 hu hs hO ⊢
  have hd : d.length ≤ 1000000 := by rcases hx1 with ⟨_, _, h⟩ | ⟨_, h⟩; omega; rw [h]; decide
  have hx0 : ¬ xk = 0 := by omega
  have hap : ∀ a ∈ ms, ∀ k, (dV a).ownBlock = some k → (dV ⟨u, Ax, cx, d⟩).ownBlock ≠ some k := fun a ha k hk hk2 => by
    have h1 := hfr a ha k hk
    have h2 := (own_type hO hk2).1
    omega
  have errK : ∀ (code : Nat), moreV (ms.map SegM.v) last ⟨xk, u, d, s⟩ = code → code ≠ 0 → ∀ (st' : Nat), st' = st → (Calls Tryd.prog 33 #[.agg (imA st S ms.length c), .agg (rdA (bs (kindW last.kind)) last.at_ (.slice Al last.b.length cl) last.sum), .agg (rdA (bs (kindW xk)) u (.slice Ax d.length cx) s)] w fun e w' => e = .returned (.tuple #[.agg (imA st' S ms.length c), .int .i64 (code : Nat)]) ∧ Below w.heap.size w w') → Calls Tryd.prog 33 #[.agg (imA st S ms.length c), .agg (rdA (bs (kindW last.kind)) last.at_ (.slice Al last.b.length cl) last.sum), .agg (rdA (bs (kindW xk)) u (.slice Ax d.length cx) s)] w (NextIs B st (ms.map SegM.v) last ⟨xk, u, d, s⟩ w) := by
    intro code hc h0 st' hst h
    subst hst
    refine h.mono ?_
    rintro e w' ⟨rfl, hb⟩
    exact .inl ⟨by rw [hc]; exact h0, ⟨_, _, _, by rw [hc]⟩, Kp.of hb hB⟩
  by_cases hl9 : last.kind = 3
  · refine errK 2 ?_ (by decide) st rfl (next_a st ms.length c S _ last.at_ last.b.length cl last.sum Al _ u cx s Ax d w Bx hO hl2 hu hs (by omega) hd (by omega) (by rw [kind_eq, hl9]; rfl))
    unfold moreV
    rw [if_pos (.inr hl9)]
  have q1 : ((bs (kindW last.kind)).toList == [115, 116, 97, 114, 116]) = false := by
    rw [kind_eq]
    rcases (show last.kind = 0 ∨ last.kind = 1 ∨ last.kind = 2 by omega) with h | h | h <;> rw [h] <;> rfl
  have m1 : ¬ (xk = 0 ∨ last.kind = 3) := by omega
  have hg : ∀ b : Bool, b = decide (last.kind ≠ 0 ∧ last.b.length = 16 ∧ last.at_ + 16 = u) → b = decide ((bs (kindW last.kind)).toList ≠ [] ∧ last.b.length = 16 ∧ last.at_ + 16 = u) := by
    intro b hb
    rw [hb]
    have h0 : ((bs (kindW last.kind)).toList ≠ []) ↔ last.kind ≠ 0 := by
      have e : (bs (kindW last.kind)).toList = kindW last.kind := ByteArray.toList_eq _
      rw [e]
      rcases (show last.kind = 0 ∨ last.kind = 1 ∨ last.kind = 2 by omega) with h | h | h <;> rw [h] <;> simp [kindW, segW, andW]
    exact decide_eq_decide.2 ⟨fun h => ⟨h0.2 h.1, h.2⟩, fun h => ⟨h0.1 h.1, h.2⟩⟩
  by_cases k2 : xk = 2
  · subst k2
    have w2 : ((bs (kindW 2)).toList == [97, 110, 100]) = true := by rw [kind_eq]; rfl
    have w3 : ((bs (kindW 2)).toList == [115, 116, 97, 114, 116]) = false := by rw [kind_eq]; rfl
    have w4 : ((bs (kindW 2)).toList == [115, 101, 103]) = false := by rw [kind_eq]; rfl
    by_cases g : last.kind ≠ 0 ∧ last.b.length = 16 ∧ last.at_ + 16 = u
    · have m2 : ¬ ((2 : Nat) = 2 ∧ ¬ (last.kind ≠ 0 ∧ last.b.length = 16 ∧ last.at_ + 16 = u)) := fun q => q.2 g
      have hg1 := hg true (decide_eq_true g).symm
      by_cases k3 : ckV u d = s
      · by_cases k4 : 16384 < u + d.length
        · refine errK 3 ?_ (by decide) st rfl (next_f2 st ms.length c S _ last.at_ last.b.length cl last.sum Al _ u cx s Ax d w Bx hO hl2 hu hs (by omega) hd (by omega) q1 w2 w3 w4 hg1 k3 k4)
          unfold moreV
          rw [if_neg m1, if_neg m2, if_neg (by simpa using k3), if_neg (by simp), if_neg (by simp), if_pos k4]
        · obtain ⟨he, hne⟩ := hE (by have := g.1; omega)
          obtain ⟨ms0, m0, hms⟩ : ∃ ms0 m0, ms = ms0 ++ [m0] := ⟨ms.dropLast, ms.getLast hne, (List.dropLast_concat_getLast hne).symm⟩
          subst hms
          have hend : m0.at_ + m0.d.length = last.at_ + last.b.length := by
            rw [← he]
            unfold endV
            rw [List.map_append, List.map_cons, List.map_nil, List.getLast?_append]
            rfl
          have hlen : (ms0 ++ [m0]).length = ms0.length + 1 := by simp
          have hA : Ax ≠ none := fun h => by
            have h1 := ((own_cap hO).2.2 h).1
            rcases hx1 with ⟨_, h2, _⟩ | ⟨h2, _⟩
            · omega
            · cases h2
          have hz : moreV ((ms0 ++ [m0]).map SegM.v) last ⟨2, u, d, s⟩ = 0 := by
            unfold moreV
            rw [if_neg m1, if_neg m2, if_neg (by simpa using k3), if_neg (by simp), if_neg (by simp), if_neg k4, if_neg (by simp)]
          refine (next_g st (ms0 ++ [m0]).length c S _ last.at_ last.b.length cl last.sum Al _ u cx s Ax d w Bx hO hl2 hu hs (by omega) hd (by omega) q1 w2 w3 w4 hg1 k3 B ms0 m0 ms0.length hS rfl hlen hB hA (by omega) (by omega)).mono ?_
          rintro e w' ⟨rfl, ⟨A', c', h1⟩, h2⟩
          refine .inr ⟨hz, S, c, ms0 ++ [⟨m0.at_, A', c', m0.d ++ d⟩], ?_, ?_, ?_, h2⟩
          · simp
          · rw [List.map_append, List.map_append]
            show _ = putV (ms0.map SegM.v ++ [m0.v]) ⟨2, u, d, s⟩
            unfold putV
            rw [if_neg (by simp), if_pos rfl, List.getLast?_append]
            simp [SegM.v]
          · simpa using h1
      · refine errK 11 ?_ (by decide) st rfl (next_c2 st ms.length c S _ last.at_ last.b.length cl last.sum Al _ u cx s Ax d w Bx hO hl2 hu hs (by omega) hd (by omega) q1 w2 w3 w4 hg1 k3)
        unfold moreV
        rw [if_neg m1, if_neg m2, if_pos k3]
    · have hg0 := hg false (decide_eq_false g).symm
      refine errK 2 ?_ (by decide) st rfl (next_b st ms.length c S _ last.at_ last.b.length cl last.sum Al _ u cx s Ax d w Bx hO hl2 hu hs (by omega) hd (by omega) q1 w2 hg0)
      unfold moreV
      rw [if_neg m1, if_pos ⟨rfl, g⟩]
  have w2 : ((bs (kindW xk)).toList == [97, 110, 100]) = false := by
    rw [kind_eq]
    rcases (show xk = 1 ∨ xk = 3 by omega) with h | h <;> rw [h] <;> rfl
  have m2 : ¬ (xk = 2 ∧ ¬ (last.kind ≠ 0 ∧ last.b.length = 16 ∧ last.at_ + 16 = u)) := fun q => k2 q.1
  by_cases k3 : ckV u d ≠ s
  · refine errK 11 ?_ (by decide) st rfl (next_c1 st ms.length c S _ last.at_ last.b.length cl last.sum Al _ u cx s Ax d w Bx hO hl2 hu hs (by omega) hd (by omega) q1 w2 k3)
    unfold moreV
    rw [if_neg m1, if_neg m2, if_pos k3]
  replace k3 : ckV u d = s := by simpa using k3
  by_cases k5 : xk = 3
  · subst k5
    have w3 : ((bs (kindW 3)).toList == [115, 116, 97, 114, 116]) = true := by rw [kind_eq]; rfl
    have hz : moreV (ms.map SegM.v) last ⟨3, u, d, s⟩ = 0 := by
      unfold moreV
      rw [if_neg m1, if_neg m2, if_neg (by simpa using k3), if_pos rfl]
    refine (next_d st ms.length c S _ last.at_ last.b.length cl last.sum Al _ u cx s Ax d w Bx hO hl2 hu hs (by omega) hd (by omega) q1 w2 w3 k3).mono ?_
    rintro e w' ⟨rfl, hb⟩
    exact .inr ⟨hz, S, c, ms, by simp, by simp [putV], hS.below hb, Kp.of hb hB⟩
  · obtain rfl : xk = 1 := by omega
    have w3 : ((bs (kindW 1)).toList == [115, 116, 97, 114, 116]) = false := by rw [kind_eq]; rfl
    have w4 : ((bs (kindW 1)).toList == [115, 101, 103]) = true := by rw [kind_eq]; rfl
    by_cases k6 : ms.length = 64
    · refine errK 4 ?_ (by decide) st rfl (next_e st ms.length c S _ last.at_ last.b.length cl last.sum Al _ u cx s Ax d w Bx hO hl2 hu hs (by omega) hd (by omega) q1 w2 w3 w4 k3 k6)
      unfold moreV
      rw [if_neg m1, if_neg m2, if_neg (by simpa using k3), if_neg (by simp), if_pos ⟨rfl, by simpa using k6⟩]
    have m6 : ¬ ((1 : Nat) = 1 ∧ (ms.map SegM.v).length = 64) := by simpa using k6
    by_cases k7 : 16384 < u + d.length
    · refine errK 3 ?_ (by decide) st rfl (next_f1 st ms.length c S _ last.at_ last.b.length cl last.sum Al _ u cx s Ax d w Bx hO hl2 hu hs (by omega) hd (by omega) q1 w2 w3 w4 k3 k6 k7)
      unfold moreV
      rw [if_neg m1, if_neg m2, if_neg (by simpa using k3), if_neg (by simp), if_neg m6, if_pos k7]
    have good : ∀ {e : Ending} {w' : World}, moreV (ms.map SegM.v) last ⟨1, u, d, s⟩ = 0 → (∃ S' c', e = .returned (.tuple #[.agg (imA st S' (ms.length + 1) c'), .int .i64 0]) ∧ SegsAt w' B (.slice S' (ms.length + 1) c') (ms ++ [⟨u, Ax, cx, d⟩]) ∧ Kp B w w') → NextIs B st (ms.map SegM.v) last ⟨1, u, d, s⟩ w e w' := by
      rintro e w' hz ⟨S', c', rfl, h1, h2⟩
      exact .inr ⟨hz, S', c', ms ++ [⟨u, Ax, cx, d⟩], by simp, by simp [putV, SegM.v], by simpa using h1, h2⟩
    by_cases k8 : ms = []
    · subst k8
      refine (next_i1 st 0 c S _ last.at_ last.b.length cl last.sum Al _ u cx s Ax d w Bx hO hl2 hu hs (by omega) hd (by omega) q1 w2 w3 w4 k3 B [] hS rfl hB hBx hap (by omega) (by omega) rfl).mono ?_
      intro e w' h
      refine good ?_ h
      unfold moreV
      rw [if_neg m1, if_neg m2, if_neg (by simpa using k3), if_neg (by simp), if_neg m6, if_neg k7, if_neg (by simp [endV])]
    · obtain ⟨ms0, m0, hms⟩ : ∃ ms0 m0, ms = ms0 ++ [m0] := ⟨ms.dropLast, ms.getLast k8, (List.dropLast_concat_getLast k8).symm⟩
      have hend : endV (ms.map SegM.v) = m0.at_ + m0.d.length := by
        rw [hms]
        unfold endV
        rw [List.map_append, List.map_cons, List.map_nil, List.getLast?_append]
        rfl
      have hget : ms[ms0.length]? = some m0 := by rw [hms]; simp
      have hlen : ms.length = ms0.length + 1 := by rw [hms]; simp
      by_cases k9 : u < m0.at_ + m0.d.length
      · refine errK 7 ?_ (by decide) st rfl (next_h st ms.length c S _ last.at_ last.b.length cl last.sum Al _ u cx s Ax d w Bx hO hl2 hu hs (by omega) hd (by omega) q1 w2 w3 w4 k3 B ms hS rfl hB hBx hap (by omega) ms0.length m0 hget hlen k6 k9)
        unfold moreV
        rw [if_neg m1, if_neg m2, if_neg (by simpa using k3), if_neg (by simp), if_neg m6, if_neg k7, if_pos ⟨rfl, by rw [hend]; exact k9⟩]
      · refine (next_i2 st ms.length c S _ last.at_ last.b.length cl last.sum Al _ u cx s Ax d w Bx hO hl2 hu hs (by omega) hd (by omega) q1 w2 w3 w4 k3 B ms hS rfl hB hBx hap (by omega) ms0.length m0 hget hlen k6 k9).mono ?_
        intro e w' h
        refine good ?_ h
        unfold moreV
        rw [if_neg m1, if_neg m2, if_neg (by simpa using k3), if_neg (by simp), if_neg m6, if_neg k7, if_neg (by rw [hend]; exact fun q => k9 q.2)]
end Go.Proofs.YtnigkecpiolgeaaDoor.My
/- Walk: the image that lines are: the program's. -/
set_option linter.unusedVariables false
set_option linter.unusedSimpArgs false
namespace Go.Proofs.YtnigkecpiolgeaaDoor.My
open Go.RowKit
/-- What the rows come to, behind an image: its start, its segments, a line's number, and a code. -/
def goV : List RowV → Nat → List SegV → RowV → Nat → Nat × List SegV × Nat × Nat
  | [], st, ss, last, i => if last.kind = 3 then (st, ss, 0, 0) else (0, [], i + 1, 6)
  | x :: r, st, ss, last, i => if moreV ss last x = 0 then goV r (if x.kind = 3 then x.at_ else st) (putV ss x) x (i + 1) else (0, [], i + 1, moreV ss last x)
def rowsV (s : ByteArray) : List RowV := (linesV s).1.map fun t => rowV t.data.toList
def parseV (s : ByteArray) : Nat × List SegV × Nat × Nat := if (linesV s).2 = 0 then goV (rowsV s) 0 [] rowZ 0 else (0, [], 0, (linesV s).2.toNat)
theorem ownT {w w2 : World} {B e k n g : Nat} {v : Value} {xs : List Value} {cs : Array Value} {t : TypeId} {fr : Nat × Nat} (h : w.ownsRow B e k v n xs) (hc : w.heap[g]? = some (.cells cs t fr)) (ht : t ≠ e) (ho : Only g w w2) : w2.ownsRow B e k v n xs :=
  own_same h fun j hj => ho.block j fun q => by
    subst q
    obtain ⟨_, cs', h3⟩ := own_type h hj
    rw [hc] at h3
    injection h3 with h3
    injection h3 with _ e' _
    exact ht e'
theorem own_kept {w w2 : World} {B B' e k n : Nat} {v : Value} {xs : List Value} (h : w.ownsRow B e k v n xs) (hk : Kp B' w w2) (h1 : e ≠ 5) (h2 : e ≠ 51) : w2.ownsRow B e k v n xs :=
  own_same h fun j hj => by
    obtain ⟨_, cs', h3⟩ := own_type h hj
    rw [h3]
    exact hk.kept j cs' e _ h3 h1 h2
theorem NextIs.good {B st : Nat} {ss : List SegV} {last x : RowV} {w w' : World} {e : Ending} (h : NextIs B st ss last x w e w') (h0 : moreV ss last x = 0) : ∃ (S' : Option Addr) (c' : Nat) (ms' : List SegM), e = .returned (.tuple #[.agg (imA (if x.kind = 3 then x.at_ else st) S' ms'.length c'), .int .i64 0]) ∧ ms'.map SegM.v = putV ss x ∧ SegsAt w' B (.slice S' ms'.length c') ms' ∧ Kp B w w' := by
  rcases h with h | h
  · exact absurd h0 h.1
  · exact h.2
theorem NextIs.bad {B st : Nat} {ss : List SegV} {last x : RowV} {w w' : World} {e : Ending} (h : NextIs B st ss last x w e w') (h0 : moreV ss last x ≠ 0) : ∃ S' n' c', e = .returned (.tuple #[.agg (imA st S' n' c'), .int .i64 (moreV ss last x : Nat)]) ∧ Kp B w w' := by
  rcases h with h | h
  · obtain ⟨_, ⟨S', n', c', h1⟩, h2⟩ := h; exact ⟨S', n', c', h1, h2⟩
  · exact absurd h.1 h0
theorem put_len {ss : List SegV} {last x : RowV} (h : moreV ss last x = 0) (hl : ss.length ≤ 64) : (putV ss x).length ≤ 64 := by
  unfold putV
  by_cases h1 : x.kind = 1
  · rw [if_pos h1, List.length_append]
    have : ss.length ≠ 64 := by
      intro q
      unfold moreV at h
      rw [if_pos (show x.kind = 1 ∧ ss.length = 64 from ⟨h1, q⟩)] at h
      repeat' split at h
      all_goals first
        | omega
        | cases h
    simp; omega
  · rw [if_neg h1]
    by_cases h2 : x.kind = 2
    · rw [if_pos h2]
      cases hg : ss.getLast? with
      | none => exact hl
      | some s =>
        simp only
        have : ss ≠ [] := by intro q; subst q; cases hg
        have := List.length_pos_iff.2 this
        rw [List.length_append, List.length_dropLast]; simp; omega
    · rw [if_neg h2]; exact hl
theorem end_app (ss : List SegV) (s : SegV) : endV (ss ++ [s]) = s.at_ + s.d.length := by
  unfold endV
  rw [List.getLast?_append]
  rfl
/-- What stands between lines. -/
theorem put_end {ss : List SegV} {last x : RowV} (h : moreV ss last x = 0) (hl3 : last.kind ≤ 3) (hl : last.kind = 1 ∨ last.kind = 2 → endV ss = last.at_ + last.b.length ∧ ss ≠ []) (hx : x.kind = 1 ∨ x.kind = 2) : endV (putV ss x) = x.at_ + x.b.length ∧ putV ss x ≠ [] := by
  unfold putV
  by_cases h1 : x.kind = 1
  · rw [if_pos h1, end_app]
    exact ⟨rfl, by simp⟩
  · have h2 : x.kind = 2 := by omega
    rw [if_neg h1, if_pos h2]
    have hg : last.kind ≠ 3 ∧ last.kind ≠ 0 ∧ last.b.length = 16 ∧ last.at_ + 16 = x.at_ := by
      unfold moreV at h
      split at h
      · cases h
      · split at h
        · cases h
        · rename_i q1 q2
          refine ⟨fun q => q1 (.inr q), ?_⟩
          by_cases g : last.kind ≠ 0 ∧ last.b.length = 16 ∧ last.at_ + 16 = x.at_
          · exact g
          · exact absurd ⟨h2, g⟩ q2
    obtain ⟨he, hne⟩ := hl (by omega)
    cases hgl : ss.getLast? with
    | none => exact absurd (List.getLast?_eq_none_iff.1 hgl) hne
    | some s =>
      simp only
      rw [end_app]
      refine ⟨?_, by simp⟩
      simp only [List.length_append]
      unfold endV at he
      rw [hgl] at he
      simp only at he
      omega
theorem linesR_small (s : ByteArray) : ∀ (b i F : Nat), ∀ t ∈ linesR s b i F, t.size ≤ s.size
  | 0, _, _, t, h => by cases h
  | b + 1, i, F, t, h => by
    rw [linesR] at h
    split at h
    · rcases List.mem_cons.1 h with rfl | h
      · rw [ByteArray.size_extract]; omega
      · exact linesR_small s b _ _ t h
    · exact linesR_small s b _ _ t h
theorem linesR_few (s : ByteArray) : ∀ (b i F : Nat), (linesR s b i F).length ≤ b
  | 0, _, _ => Nat.le_refl _
  | b + 1, i, F => by
    rw [linesR]
    split
    · rw [List.length_cons]; have := linesR_few s b (i + 1) (i + 1); omega
    · have := linesR_few s b (i + 1) F; omega
theorem lines_small (s t : ByteArray) (h : t ∈ (linesV s).1) : t.size ≤ s.size := by
  unfold linesV at h
  split at h
  · cases h
  · split at h
    · cases h
    · exact linesR_small s _ _ _ t h
theorem lines_few (s : ByteArray) : (linesV s).1.length ≤ s.size := by
  unfold linesV
  split
  · exact Nat.zero_le _
  · split
    · exact Nat.zero_le _
    · exact linesR_few s _ _ _
/-- What reading an image's lines leaves. -/
def ImgIs (R : Nat × List SegV × Nat × Nat) (w : World) (e : Ending) (w' : World) : Prop :=
  (∃ (S : Option Addr) (c : Nat) (ms : List SegM), e = .returned (.tuple #[.agg (imA R.1 S ms.length c), .int .i64 (R.2.2.1 : Nat), .int .i64 (R.2.2.2 : Nat)]) ∧ ms.map SegM.v = R.2.1 ∧ SegsAt w' w.heap.size (.slice S ms.length c) ms ∧ ms.length ≤ 64) ∧ Below w.heap.size w w'
theorem img_none {w w' : World} {n e : Nat} {B : Nat} (hb : Below w.heap.size w w') : ImgIs (0, [], n, e) w (.returned (.tuple #[.agg (imA 0 none 0 0), .int .i64 (n : Nat), .int .i64 (e : Nat)])) w' := ⟨⟨none, 0, [], rfl, rfl, SegsAt.nil _ _, by decide⟩, hb⟩
set_option maxRecDepth 100000 in
set_option maxHeartbeats 4000000 in
theorem parseW_any (s : ByteArray) (m : Int) (w : World) (hM : w.cell? ⟨0, 0, none⟩ = some (.int .i64 m)) (hm : s.size ≤ 1000000) : Calls Tryd.prog 15 #[.string s] w (ImgIs (parseV s) w) := by
  obtain ⟨R, hR⟩ : ∃ R, parseV s = R := ⟨_, rfl⟩
  rw [hR]
  obtain ⟨⟨ls, ec⟩, hLV⟩ : ∃ V, linesV s = V := ⟨_, rfl⟩
  have HLV := Lib.hid hLV
  have HM := Lib.hid hM
  have HB := startB w
  by_cases hec : ec = 0
  · subst hec
    have HGO : Hid (goV (ls.map fun t => rowV t.data.toList) 0 [] rowZ 0 = R) := Lib.hid (by rw [← hR]; unfold parseV rowsV; rw [hLV, if_pos rfl])
    have HLS : Hid (∀ t ∈ ls, t.size ≤ 1000000) := Lib.hid (fun t ht => Nat.le_trans (lines_small s t (by rw [hLV]; exact ht)) hm)
    have hln : ls.length ≤ 1000000 := (Nat.le_trans (by have := lines_few s; rw [hLV] at this; exact this) hm)
    clear hR hLV hM
    go_enter Tryd.func15, Tryd.ntmps15
    go_wp2_with (first | (refine wlAlloc rfl 25 rfl (imA 0 none 0 0) zeroIm ?_; intro gT w1 hg hl ha hb; have HGT : Hid (w.heap.size ≤ gT) := Lib.hid hg; have HT := Lib.hid ha; replace HB := keepB HB hb; clear ha hb hg hl) | (go_at_call 31; refine (lines_any s _ hm).mono ?_; rw [HLV.out]; rintro e w2 ⟨⟨v, rfl, ho⟩, hb⟩; obtain ⟨W0, cW, rfl⟩ := own_val ho; have HW := Lib.hid (own_weak ho HB.out.2); replace HT := keepA HT hb; replace HB := keepB HB hb; clear ho hb) | (refine wlAlloc rfl 25 rfl (imA 0 none 0 0) zeroIm ?_; intro gI w3 hg hl ha hb; have HGI : Hid (w.heap.size ≤ gI) := Lib.hid (Nat.le_trans HB.out.2 hg); have HTI : Hid (gT ≠ gI) := Lib.hid (Nat.ne_of_lt (Nat.lt_of_lt_of_le (Array.getElem?_eq_some_iff.1 HT.out).1 hg)); replace HT := keepA HT hb; replace HW := Lib.hid (ownk_below HW.out hb); have HI := Lib.hid ha; replace HB := keepB HB hb; clear ha hb hg hl) | (refine wlAlloc rfl 68 rfl (rdA ⟨#[]⟩ 0 (.slice none 0 0) 0) zeroRd ?_; intro gL w4 hg hl ha hb; have HGL : Hid (w.heap.size ≤ gL) := Lib.hid (Nat.le_trans HB.out.2 hg); replace HT := keepA HT hb; replace HI := keepA HI hb; replace HW := Lib.hid (ownk_below HW.out hb); have HL : Hid (w4.heap[gL]? = some (.cells (rdA (bs (kindW rowZ.kind)) rowZ.at_ (.slice none rowZ.b.length 0) rowZ.sum) 68 (0, 0))) := Lib.hid ha; have HSG := Lib.hid (SegsAt.nil w4 w.heap.size); replace HB := keepB HB hb; clear ha hb hg hl))
    go_loopw [24] (fun i wr => ∃ (k st sc : Nat) (S : Option Addr) (ms : List SegM) (last : RowV) (Al : Option Addr) (cl : Nat), k ≤ ls.length ∧ i = .int .i64 k ∧ ms.length ≤ 64 ∧ last.kind ≤ 3 ∧ last.at_ < 4294967296 ∧ last.b.length ≤ 16 ∧ Hid (last.kind = 1 ∨ last.kind = 2 → endV (ms.map SegM.v) = last.at_ + last.b.length ∧ ms ≠ []) ∧ Hid (goV ((ls.drop k).map fun t => rowV t.data.toList) st (ms.map SegM.v) last k = R) ∧ Hid (wr.heap[gI]? = some (.cells (imA st S ms.length sc) 25 (0, 0))) ∧ Hid (wr.heap[gL]? = some (.cells (rdA (bs (kindW last.kind)) last.at_ (.slice Al last.b.length cl) last.sum) 68 (0, 0))) ∧ Hid (wr.heap[gT]? = some (.cells (imA 0 none 0 0) 25 (0, 0))) ∧ Hid (SegsAt wr w.heap.size (.slice S ms.length sc) ms) ∧ Hid (Own wr w.heap.size (.slice W0 ls.length cW) ls) ∧ Hid (Below w.heap.size w wr ∧ w.heap.size ≤ wr.heap.size)) (fun i _ => ls.length - (intOf i).toNat)
    case atStart => exact ⟨0, 0, 0, none, [], rowZ, none, 0, Nat.zero_le _, rfl, by decide, by decide, by decide, by decide, Lib.hid (fun h => by rcases h with h | h <;> cases h), HGO, HI, HL, HT, HSG, HW, HB⟩
    case round =>
      clear HI HL HT HSG HW HB HGO
      obtain ⟨k, st, sc, S, ms, last, Al, cl, hk, rfl, hms, hl3, hla, hlb, HEN, HGO, HI, HL, HT, HSG, HW, HB⟩ := hrel
      have HLA := Lib.hid hla
      have HLB := Lib.hid hlb
      obtain ⟨wo, rfl⟩ : ∃ wo, wo = wr := ⟨wr, rfl⟩
      by_cases hlt : k < ls.length
      · obtain ⟨t, ht⟩ : ∃ t, ls[k]? = some t := ⟨_, List.getElem?_eq_getElem hlt⟩
        have hts := HLS.out t (List.mem_of_getElem? ht)
        obtain ⟨W1, cW1, hW1, hrs⟩ := RdS.of_own HW.out
        obtain ⟨b, off, hb0, hcell⟩ := hrs (by omega)
        injection hW1 with hW2 hW3 hW4
        subst hW2 hb0
        clear hW3
        subst hW4
        have f0 := hcell k t ht
        obtain ⟨xl, hxl⟩ : ∃ xl, t.data.toList = xl := ⟨_, rfl⟩
        have htb : t = bs xl := by rw [← hxl]; rfl
        have hxs : xl.length ≤ 1000000 := by rw [htb, bs_size] at hts; exact hts
        rw [htb] at f0
        have hgo := HGO.out
        rw [drop_cons ht, List.map_cons, hxl, goV] at hgo
        clear hcell hrs hxl htb hts ht HGO
        obtain ⟨x, hx⟩ : ∃ x, rowV xl = x := ⟨_, rfl⟩
        rw [hx] at hgo
        by_cases k0 : x.kind = 0
        · have hmo : moreV (ms.map SegM.v) last x = 2 := by unfold moreV; rw [if_pos (.inl k0)]
          rw [hmo, if_neg (by decide)] at hgo
          have hCP : ∀ w', w'.cell? ⟨0, 0, none⟩ = some (.int .i64 m) → Calls Tryd.prog 32 #[.string (bs xl)] w' fun e w'' => (∃ W u A n c z, e = .returned (.tuple #[.agg (rdA W u (.slice A n c) z), .bool false])) ∧ Below w'.heap.size w' w'' := fun w' h => (parse_any xl m w' h hxs).mono (by
            rintro e w'' ⟨h1, h2⟩
            rw [hx] at h1
            rcases h1 with ⟨_, h1⟩ | ⟨h1, _⟩
            · exact ⟨h1, h2⟩
            · exact absurd k0 h1)
          have HCP := Lib.hid hCP
          subst hgo
          clear hCP hmo k0 hx
          go_wp2_with (first | (go_at_call 32; refine (HCP.out _ ((HB.out.1.cell (World.block_lt_of_cell? w _ HM.out)).trans HM.out)).mono ?_; clear HCP; rintro e w5 ⟨⟨W, u, A, n, c, z, rfl⟩, hb⟩; replace HI := keepA HI hb; replace HL := keepA HL hb; replace HT := keepA HT hb; replace HSG := Lib.hid (HSG.out.below hb); replace HW := Lib.hid (ownk_below HW.out hb); replace HB := keepB HB hb; clear hb) | (refine wlAlloc rfl 68 rfl (rdA ⟨#[]⟩ 0 (.slice none 0 0) 0) zeroRd ?_; intro gR w6 hg hl ha hb; have HGR : Hid (w.heap.size ≤ gR) := Lib.hid (Nat.le_trans HB.out.2 hg); replace HI := keepA HI hb; replace HL := keepA HL hb; replace HT := keepA HT hb; replace HSG := Lib.hid (HSG.out.below hb); replace HW := Lib.hid (ownk_below HW.out hb); replace HB := keepB HB hb; have HR := Lib.hid ha; clear ha hb hg hl) | (refine rowStore rfl 68 _ _ rfl gR rfl (rdA W u (.slice A n c) z) rfl HR.out infoRd rfl (rdA_one _ _ _ _ _ _) ?_; intro w7 ha ho; replace HT := keepNe HT HR (by decide) ho; replace HR := Lib.hid ha; replace HB := keepBo HB HGR.out ho; clear ha ho) | (refine rowStore rfl 25 _ _ rfl gT rfl (imA 0 none 0 0) rfl HT.out infoIm rfl (imA_one _ _ _ _) ?_; intro w9 ha ho; replace HT := Lib.hid ha; replace HB := keepBo HB HGT.out ho; clear ha ho))
          exact bodyPost_ret (res3 rfl _ _ gT 25 (imA 0 none 0 0) (0, 0) _ rfl HT.out Tryd.underlying25 rfl infoIm) rfl (img_none (B := 0) HB.out.1)
        · have hok := (fmt_row (l := xl) (by rw [hx]; exact k0)).1
          rw [hx] at hok
          have HRO := Lib.hid hok
          have hCP : ∀ w', w'.cell? ⟨0, 0, none⟩ = some (.int .i64 m) → Calls Tryd.prog 32 #[.string (bs xl)] w' fun e w'' => (∃ A c, e = .returned (.tuple #[.agg (rdA (bs (kindW x.kind)) x.at_ (.slice A x.b.length c) x.sum), .bool true]) ∧ OwnB w'' w'.heap.size (.slice A x.b.length c) x.b) ∧ Below w'.heap.size w' w'' := fun w' h => (parse_any xl m w' h hxs).mono (by
            rintro e w'' ⟨h1, h2⟩
            rw [hx] at h1
            rcases h1 with ⟨h1, _⟩ | ⟨_, h1⟩
            · exact absurd h1 k0
            · exact ⟨h1, h2⟩)
          have HCP := Lib.hid hCP
          obtain ⟨WX, hWX⟩ : ∃ W, kindW x.kind = W := ⟨_, rfl⟩
          obtain ⟨WL, hWL⟩ : ∃ W, kindW last.kind = W := ⟨_, rfl⟩
          have hNX : ∀ (w' : World) (Bx : Nat) (A : Option Addr) (c : Nat), SegsAt w' w.heap.size (.slice S ms.length sc) ms → w.heap.size ≤ w'.heap.size → w.heap.size ≤ Bx → OwnB w' Bx (.slice A x.b.length c) x.b → (∀ a ∈ ms, ∀ k, (dV a).ownBlock = some k → k < Bx) → Calls Tryd.prog 33 #[.agg (imA st S ms.length sc), .agg (rdA (bs WL) last.at_ (.slice Al last.b.length cl) last.sum), .agg (rdA (bs WX) x.at_ (.slice A x.b.length c) x.sum)] w' (NextIs w.heap.size st (ms.map SegM.v) last x w') := fun w' Bx A c h1 h2 h3 h4 h5 => by
            rw [← hWL, ← hWX]
            exact next_any st sc S ms last x Al A cl c w' w.heap.size Bx h1 h2 h3 h4 h5 hok hl3 hla hlb hms HEN.out
          have HNX := Lib.hid hNX
          rw [hWX] at HCP
          rw [hWL] at HL
          have HWX := Lib.hid hWX
          clear hNX hWX hWL
          have HX3 : Hid (x.kind ≤ 3 ∧ x.at_ < 4294967296 ∧ x.b.length ≤ 16) := Lib.hid ⟨by have := hok.1; omega, hok.2.1, by rcases hok.1 with ⟨_, _, h⟩ | ⟨_, h⟩; exact h; rw [h]; decide⟩
          clear hCP k0 hx hok
          by_cases k1 : moreV (ms.map SegM.v) last x = 0
          · rw [if_pos k1] at hgo
            have HGO := Lib.hid hgo
            have HMO := Lib.hid k1
            have HPE := Lib.hid (put_end (x := x) k1 hl3 (fun h => ⟨(HEN.out h).1, fun q => (HEN.out h).2 (List.map_eq_nil_iff.1 q)⟩))
            have HPL : Hid ((putV (ms.map SegM.v) x).length ≤ 64) := Lib.hid (put_len k1 (by rw [List.length_map]; exact hms))
            clear hgo k1
            go_wp2_with (first | (go_at_call 32; refine (HCP.out _ ((HB.out.1.cell (World.block_lt_of_cell? w _ HM.out)).trans HM.out)).mono ?_; clear HCP; rintro e w5 ⟨⟨A, c, rfl, ho⟩, hb⟩; have HFR := Lib.hid (fun (a : SegM) (ha : a ∈ ms) (j : Nat) (hj : (dV a).ownBlock = some j) => own_lt (HSG.out.inn a ha) hj); have HBX := Lib.hid HB.out.2; replace HI := keepA HI hb; replace HL := keepA HL hb; replace HT := keepA HT hb; replace HSG := Lib.hid (HSG.out.below hb); replace HW := Lib.hid (ownk_below HW.out hb); replace HB := keepB HB hb; have HO := Lib.hid ho; clear hb ho) | (refine wlAlloc rfl 68 rfl (rdA ⟨#[]⟩ 0 (.slice none 0 0) 0) zeroRd ?_; intro gR w6 hg hl ha hb; have HGR : Hid (w.heap.size ≤ gR) := Lib.hid (Nat.le_trans HB.out.2 hg); have HLR : Hid (gL ≠ gR) := Lib.hid (Nat.ne_of_lt (Nat.lt_of_lt_of_le (Array.getElem?_eq_some_iff.1 HL.out).1 hg)); replace HI := keepA HI hb; replace HL := keepA HL hb; replace HT := keepA HT hb; replace HSG := Lib.hid (HSG.out.below hb); replace HW := Lib.hid (ownk_below HW.out hb); replace HB := keepB HB hb; replace HO := Lib.hid (ownk_below HO.out hb); have HR := Lib.hid ha; clear ha hb hg hl) | (refine rowStore rfl 68 _ _ rfl gR rfl (rdA (bs WX) x.at_ (.slice A x.b.length c) x.sum) rfl HR.out infoRd rfl (rdA_one _ _ _ _ _ _) ?_; intro w7 ha ho; replace HSG := Lib.hid (HSG.out.only ho HR.out (by decide) (by decide)); replace HW := Lib.hid (ownT HW.out HR.out (by decide) ho); replace HO := Lib.hid (ownT HO.out HR.out (by decide) ho); replace HT := keepNe HT HR (by decide) ho; replace HI := keepNe HI HR (by decide) ho; replace HL := keepAo HL HLR.out ho; replace HR := Lib.hid ha; replace HB := keepBo HB HGR.out ho; clear ha ho) | (refine rowLoad rfl 25 _ rfl gI rfl (cs := imA st S ms.length sc) HI.out Tryd.underlying25 rfl infoIm ?_) | (refine rowLoad rfl 68 _ rfl gL rfl (cs := rdA (bs WL) last.at_ (.slice Al last.b.length cl) last.sum) HL.out Tryd.underlying68 rfl infoRd ?_) | (refine rowLoad rfl 68 _ rfl gR rfl (cs := rdA (bs WX) x.at_ (.slice A x.b.length c) x.sum) HR.out Tryd.underlying68 rfl infoRd ?_) | (go_at_call 33; refine (HNX.out _ _ A c HSG.out HB.out.2 HBX.out HO.out HFR.out).mono ?_; rintro e w8 hn; obtain ⟨S2, c2, ms2, rfl, h1, h2, h3⟩ := hn.good HMO.out; have HK := Lib.hid h3; replace HI := Lib.hid (h3.kept _ _ _ _ HI.out (by decide) (by decide)); replace HL := Lib.hid (h3.kept _ _ _ _ HL.out (by decide) (by decide)); replace HR := Lib.hid (h3.kept _ _ _ _ HR.out (by decide) (by decide)); replace HT := Lib.hid (h3.kept _ _ _ _ HT.out (by decide) (by decide)); replace HW := Lib.hid (own_kept HW.out h3 (by decide) (by decide)); replace HB : Hid (Below w.heap.size w w8 ∧ w.heap.size ≤ w8.heap.size) := Lib.hid ⟨HB.out.1.trans h3.below, h3.size⟩; have HM2 := Lib.hid h1; replace HSG := Lib.hid h2; clear h1 h2; clear hn h3 HK) | (refine rowStore rfl 25 _ _ rfl gI rfl (imA (if x.kind = 3 then x.at_ else st) S2 ms2.length c2) rfl HI.out infoIm rfl (imA_one _ _ _ _) ?_; intro w10 ha ho; replace HSG := Lib.hid (HSG.out.only ho HI.out (by decide) (by decide)); replace HW := Lib.hid (ownT HW.out HI.out (by decide) ho); replace HL := keepNe HL HI (by decide) ho; replace HR := keepNe HR HI (by decide) ho; replace HT := keepAo HT HTI.out ho; replace HI := Lib.hid ha; replace HB := keepBo HB HGI.out ho; clear ha ho) | (refine rowStore rfl 68 _ _ rfl gL rfl (rdA (bs WX) x.at_ (.slice A x.b.length c) x.sum) rfl HL.out infoRd rfl (rdA_one _ _ _ _ _ _) ?_; intro w11 ha ho; replace HSG := Lib.hid (HSG.out.only ho HL.out (by decide) (by decide)); replace HW := Lib.hid (ownT HW.out HL.out (by decide) ho); replace HT := keepNe HT HL (by decide) ho; replace HI := keepNe HI HL (by decide) ho; replace HL := Lib.hid ha; replace HB := keepBo HB HGL.out ho; clear ha ho))
            go_roundw
            case rel =>
              obtain ⟨x1, x2, x3⟩ := HX3.out
              refine ⟨k + 1, _, c2, S2, ms2, x, A, c, by omega, by go_num, ?_, x1, x2, x3, ?_, ?_, HI, by rw [HWX.out]; exact HL, HT, HSG, HW, HB⟩
              · have := HPL.out; rw [← HM2.out, List.length_map] at this; exact this
              · refine Lib.hid fun h => ?_
                rw [HM2.out]
                obtain ⟨e1, e2⟩ := HPE.out h
                refine ⟨e1, fun q => e2 ?_⟩
                rw [← HM2.out, q]; rfl
              · rw [HM2.out]; exact HGO
            case measure => simp [intOf]; omega
          · rw [if_neg k1] at hgo
            obtain ⟨M, hM⟩ : ∃ M, moreV (ms.map SegM.v) last x = M := ⟨_, rfl⟩
            have HMO := Lib.hid k1
            rw [hM] at hgo k1
            have HMM := Lib.hid hM
            have q9 : ((M : Int) != 0) = true := bne_iff_ne.2 (by omega)
            clear hM k1
            subst hgo
            go_wp2_with (first | (go_at_call 32; refine (HCP.out _ ((HB.out.1.cell (World.block_lt_of_cell? w _ HM.out)).trans HM.out)).mono ?_; clear HCP; rintro e w5 ⟨⟨A, c, rfl, ho⟩, hb⟩; have HFR := Lib.hid (fun (a : SegM) (ha : a ∈ ms) (j : Nat) (hj : (dV a).ownBlock = some j) => own_lt (HSG.out.inn a ha) hj); have HBX := Lib.hid HB.out.2; replace HI := keepA HI hb; replace HL := keepA HL hb; replace HT := keepA HT hb; replace HSG := Lib.hid (HSG.out.below hb); replace HW := Lib.hid (ownk_below HW.out hb); replace HB := keepB HB hb; have HO := Lib.hid ho; clear hb ho) | (refine wlAlloc rfl 68 rfl (rdA ⟨#[]⟩ 0 (.slice none 0 0) 0) zeroRd ?_; intro gR w6 hg hl ha hb; have HGR : Hid (w.heap.size ≤ gR) := Lib.hid (Nat.le_trans HB.out.2 hg); have HLR : Hid (gL ≠ gR) := Lib.hid (Nat.ne_of_lt (Nat.lt_of_lt_of_le (Array.getElem?_eq_some_iff.1 HL.out).1 hg)); replace HI := keepA HI hb; replace HL := keepA HL hb; replace HT := keepA HT hb; replace HSG := Lib.hid (HSG.out.below hb); replace HW := Lib.hid (ownk_below HW.out hb); replace HB := keepB HB hb; replace HO := Lib.hid (ownk_below HO.out hb); have HR := Lib.hid ha; clear ha hb hg hl) | (refine rowStore rfl 68 _ _ rfl gR rfl (rdA (bs WX) x.at_ (.slice A x.b.length c) x.sum) rfl HR.out infoRd rfl (rdA_one _ _ _ _ _ _) ?_; intro w7 ha ho; replace HSG := Lib.hid (HSG.out.only ho HR.out (by decide) (by decide)); replace HW := Lib.hid (ownT HW.out HR.out (by decide) ho); replace HO := Lib.hid (ownT HO.out HR.out (by decide) ho); replace HT := keepNe HT HR (by decide) ho; replace HI := keepNe HI HR (by decide) ho; replace HL := keepAo HL HLR.out ho; replace HR := Lib.hid ha; replace HB := keepBo HB HGR.out ho; clear ha ho) | (refine rowLoad rfl 25 _ rfl gI rfl (cs := imA st S ms.length sc) HI.out Tryd.underlying25 rfl infoIm ?_) | (refine rowLoad rfl 68 _ rfl gL rfl (cs := rdA (bs WL) last.at_ (.slice Al last.b.length cl) last.sum) HL.out Tryd.underlying68 rfl infoRd ?_) | (refine rowLoad rfl 68 _ rfl gR rfl (cs := rdA (bs WX) x.at_ (.slice A x.b.length c) x.sum) HR.out Tryd.underlying68 rfl infoRd ?_) | (go_at_call 33; refine (HNX.out _ _ A c HSG.out HB.out.2 HBX.out HO.out HFR.out).mono ?_; rintro e w8 hn; replace hn := hn.bad HMO.out; rw [HMM.out] at hn; obtain ⟨S2, n2, c2, rfl, h3⟩ := hn; replace HI := Lib.hid (h3.kept _ _ _ _ HI.out (by decide) (by decide)); replace HT := Lib.hid (h3.kept _ _ _ _ HT.out (by decide) (by decide)); replace HB : Hid (Below w.heap.size w w8 ∧ w.heap.size ≤ w8.heap.size) := Lib.hid ⟨HB.out.1.trans h3.below, h3.size⟩; clear h3) | (refine rowStore rfl 25 _ _ rfl gI rfl (imA st S2 n2 c2) rfl HI.out infoIm rfl (imA_one _ _ _ _) ?_; intro w10 ha ho; replace HT := keepAo HT HTI.out ho; replace HI := Lib.hid ha; replace HB := keepBo HB HGI.out ho; clear ha ho) | (refine rowStore rfl 25 _ _ rfl gT rfl (imA 0 none 0 0) rfl HT.out infoIm rfl (imA_one _ _ _ _) ?_; intro w9 ha ho; replace HT := Lib.hid ha; replace HB := keepBo HB HGT.out ho; clear ha ho))
            exact bodyPost_ret (res3 rfl _ _ gT 25 (imA 0 none 0 0) (0, 0) _ rfl HT.out Tryd.underlying25 rfl infoIm) rfl (img_none (B := 0) HB.out.1)
      · obtain rfl : k = ls.length := by omega
        have hgo := HGO.out
        rw [List.drop_eq_nil_of_le (Nat.le_refl _), List.map_nil, goV] at hgo
        have l0 : wo.cell? ⟨gL, 0, none⟩ = some (.string (bs (kindW last.kind))) := cellA HL 0
        obtain ⟨Q, hQ⟩ : ∃ Q, kindW last.kind = Q := ⟨_, rfl⟩
        by_cases k3 : last.kind = 3
        · rw [if_pos k3] at hgo
          have q1 : ((bs Q).toList == [115, 116, 97, 114, 116]) = true := by rw [text_eq, ← hQ, k3]; rfl
          rw [hQ] at l0 HL
          subst hgo
          clear k3 hQ HGO
          go_wp2_with (first | (refine rowLoad rfl 25 _ rfl gI rfl (cs := imA st S ms.length sc) HI.out Tryd.underlying25 rfl infoIm ?_) | (refine rowStore rfl 25 _ _ rfl gT rfl (imA st S ms.length sc) rfl HT.out infoIm rfl (imA_one _ _ _ _) ?_; intro w9 ha ho; replace HSG := Lib.hid (HSG.out.only ho HT.out (by decide) (by decide)); replace HT := Lib.hid ha; replace HB := keepBo HB HGT.out ho; clear ha ho))
          exact bodyPost_ret (res3 rfl _ _ gT 25 (imA st S ms.length sc) (0, 0) _ rfl HT.out Tryd.underlying25 rfl infoIm) rfl ⟨⟨S, sc, ms, rfl, rfl, HSG.out, hms⟩, HB.out.1⟩
        · rw [if_neg k3] at hgo
          have q1 : ((bs Q).toList == [115, 116, 97, 114, 116]) = false := by
            rw [text_eq, ← hQ]
            rcases (show last.kind = 0 ∨ last.kind = 1 ∨ last.kind = 2 by omega) with h | h | h <;> rw [h] <;> rfl
          rw [hQ] at l0 HL
          subst hgo
          clear k3 hQ HGO
          go_wp2_with (refine rowStore rfl 25 _ _ rfl gT rfl (imA 0 none 0 0) rfl HT.out infoIm rfl (imA_one _ _ _ _) ?_; intro w9 ha ho; replace HT := Lib.hid ha; replace HB := keepBo HB HGT.out ho; clear ha ho)
          exact bodyPost_ret (res3 rfl _ _ gT 25 (imA 0 none 0 0) (0, 0) _ rfl HT.out Tryd.underlying25 rfl infoIm) rfl (img_none (B := 0) HB.out.1)
  · have hr2 : R = (0, [], 0, ec.toNat) := by rw [← hR]; unfold parseV; rw [hLV, if_neg hec]
    subst hr2
    have hpos : ec = ((ec.toNat : Nat) : Int) := by
      have : (linesV s).2 = 4 ∨ (linesV s).2 = 2 ∨ (linesV s).2 = 0 := by unfold linesV; split; exact .inl rfl; split; exact .inr (.inl rfl); exact .inr (.inr rfl)
      rw [hLV] at this
      simp only at this
      omega
    obtain ⟨E, hE⟩ : ∃ E : Nat, ec.toNat = E := ⟨_, rfl⟩
    rw [hE] at hpos ⊢
    subst hpos
    have q9 : ((E : Int) != 0) = true := bne_iff_ne.2 hec
    clear hR hLV hM hE hec
    go_enter Tryd.func15, Tryd.ntmps15
    go_wp2_with (first | (refine wlAlloc rfl 25 rfl (imA 0 none 0 0) zeroIm ?_; intro gT w1 hg hl ha hb; have HGT : Hid (w.heap.size ≤ gT) := Lib.hid hg; have HT := Lib.hid ha; replace HB := keepB HB hb; clear ha hb hg hl) | (go_at_call 31; refine (lines_any s _ hm).mono ?_; rw [HLV.out]; rintro e w2 ⟨⟨v, rfl, ho⟩, hb⟩; obtain ⟨W0, cW, rfl⟩ := own_val ho; have HW := Lib.hid (own_weak ho HB.out.2); replace HT := keepA HT hb; replace HB := keepB HB hb; clear ho hb) | (refine rowStore rfl 25 _ _ rfl gT rfl (imA 0 none 0 0) rfl HT.out infoIm rfl (imA_one _ _ _ _) ?_; intro w9 ha ho; replace HT := Lib.hid ha; replace HB := keepBo HB HGT.out ho; clear ha ho))
    exact bodyPost_ret (res3 rfl _ _ gT 25 (imA 0 none 0 0) (0, 0) _ rfl HT.out Tryd.underlying25 rfl infoIm) rfl (img_none (B := 0) HB.out.1)
end Go.Proofs.YtnigkecpiolgeaaDoor.My
