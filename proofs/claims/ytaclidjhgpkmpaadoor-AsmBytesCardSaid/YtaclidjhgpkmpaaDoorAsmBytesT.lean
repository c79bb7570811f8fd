/- Plain: bytes that a text gives come to themselves. An image among the arguments: what its value looks like; is it light; where a row lists variables. Walk: are two slices of bytes one; are two images one. Walk: has an image few bytes. Walk: the law of bytes. AsmBytes: bytes given by .org and .byte come to themselves, wherever they lie, apart from one another: for every image of at most 20 segments of at most 200 bytes, apart, within memory (of others the chapter's examples alone). -/
import Derived.Test.YtaclidjhgpkmpaaDoorAsmT1
import Derived.Test.YtaclidjhgpkmpaaDoorOpenWords
import Derived.Deep.Slices
set_option linter.unusedVariables false
set_option linter.unusedSimpArgs false
namespace Go.Proofs.YtaclidjhgpkmpaaDoor.My
open Go.RowKit
theorem hv_hd {k : Nat} (h : k < 16) : hv (((hd k).toNat : Nat) : Int) = k := by
  rw [hd_nat h]
  unfold hv
  by_cases q : k < 10
  · rw [if_pos q, if_pos (by omega)]; omega
  · rw [if_neg q, if_neg (by omega), if_pos (by omega)]; omega
theorem hexR_step {l : List UInt8} {i k : Nat} (b : Nat) (n : Int) (hi : i < l.length) (hk : k < 16) (h : l[i] = hd k) : hexR (bs l) (b + 1) i n = hexR (bs l) b (i + 1) (16 * n + k) := by
  rw [hexR, bs_at hi, h, hv_hd hk, if_neg (by omega)]
theorem parse_hexL (U : Nat) (h : U < 4294967296) : parseV (bs ([48, 120] ++ hexL U)) = ((U : Int), 0) := by
  have hl : ([48, 120] ++ hexL U : List UInt8).length = 10 := by simp [hexL]
  have ok : okX (bs ([48, 120] ++ hexL U)) := ⟨by rw [bs_size, hl]; decide, by rw [bs_size, hl]; decide, by rw [bs_at (by rw [hl]; decide)]; rfl, by rw [bs_at (by rw [hl]; decide)]; rfl⟩
  have hx : hexV (bs ([48, 120] ++ hexL U)) = ((U : Int), true) := by
    unfold hexV
    rw [if_pos ok, bs_size, hl]
    rw [hexR_step 7 0 (by rw [hl]; decide) (Nat.mod_lt (U / 16 ^ 7) (by decide)) rfl]
    rw [hexR_step 6 _ (by rw [hl]; decide) (Nat.mod_lt (U / 16 ^ 6) (by decide)) rfl]
    rw [hexR_step 5 _ (by rw [hl]; decide) (Nat.mod_lt (U / 16 ^ 5) (by decide)) rfl]
    rw [hexR_step 4 _ (by rw [hl]; decide) (Nat.mod_lt (U / 16 ^ 4) (by decide)) rfl]
    rw [hexR_step 3 _ (by rw [hl]; decide) (Nat.mod_lt (U / 16 ^ 3) (by decide)) rfl]
    rw [hexR_step 2 _ (by rw [hl]; decide) (Nat.mod_lt (U / 16 ^ 2) (by decide)) rfl]
    rw [hexR_step 1 _ (by rw [hl]; decide) (Nat.mod_lt (U / 16 ^ 1) (by decide)) rfl]
    rw [hexR_step 0 _ (by rw [hl]; decide) (Nat.mod_lt (U / 16 ^ 0) (by decide)) rfl]
    rw [hexR]
    congr 1
    simp only [Nat.reducePow]
    omega
  unfold parseV
  rw [hx, if_pos rfl]
/-- A byte's word. -/
def hexW (b : UInt8) : List UInt8 := [48, 120] ++ hexL b.toNat
theorem hexL_bytes (u : Nat) : ∀ c ∈ hexL u, (48 ≤ c.toNat ∧ c.toNat ≤ 57) ∨ (97 ≤ c.toNat ∧ c.toNat ≤ 102) := by
  intro c hc
  unfold hexL at hc
  obtain ⟨i, _, rfl⟩ := List.mem_map.1 hc
  unfold hexD
  have h := Nat.mod_lt (u / 16 ^ (7 - i)) (show 0 < 16 by decide)
  rw [hd_nat h]
  split <;> omega
theorem btw_no {c : Nat} (h1 : c ≠ 32) (h2 : c ≠ 9) (h3 : c ≠ 44) : btw c = false := by
  unfold btw
  rw [beq_eq_false_iff_ne.2 h1, beq_eq_false_iff_ne.2 h2, beq_eq_false_iff_ne.2 h3]
  rfl
theorem hexW_bytes (b : UInt8) : ∀ c ∈ hexW b, (48 ≤ c.toNat ∧ c.toNat ≤ 57) ∨ (97 ≤ c.toNat ∧ c.toNat ≤ 120) := by
  intro c hc
  rcases List.mem_append.1 hc with h | h
  · simp only [List.mem_cons, List.not_mem_nil, or_false] at h
    rcases h with rfl | rfl <;> decide
  · have := hexL_bytes _ c h; omega
theorem hexW_word (b : UInt8) : wordly (hexW b) := ⟨by simp [hexW], fun c hc => by have := hexW_bytes b c hc; exact btw_no (by omega) (by omega) (by omega)⟩
theorem dec_word (n : Int) : wordly (decL n) := by
  refine ⟨?_, fun c hc => ?_⟩
  · unfold decL
    split
    · simp
    · intro q
      have := digP_pos n.natAbs
      rw [q] at this
      cases this
  · rcases dec_bytes n c hc with h | h
    · subst h; decide
    · exact btw_no (by omega) (by omega) (by omega)
theorem num_hex (b : UInt8) : numberV (hexW b) (-128) 255 = ((b.toNat : Int), 0) := by
  have hb := b.toNat_lt
  unfold numberV hexW
  rw [parse_hexL b.toNat (by omega), if_neg (by simp only; omega)]
theorem num_dec (n f t : Int) (h1 : f ≤ n) (h2 : n ≤ t) (h3 : -9223372036854775808 ≤ n) (h4 : n ≤ 9223372036854775807) : numberV (decL n) f t = (n, 0) := by
  unfold numberV
  rw [parse_decL n h3 h4, if_neg (by simp only; omega)]
/-- The lines of a segment. -/
def orgL (a : Nat) : List UInt8 := wOrg ++ [32] ++ decL (a : Int)
def byteL (d : List UInt8) : List UInt8 := wByte ++ (d.map fun b => 32 :: hexW b).flatten
def linesB : List SegV → List (List UInt8)
  | [] => []
  | s :: r => orgL s.at_ :: byteL s.d :: linesB r
theorem org_words (a : Nat) : wordsP (codeL (orgL a)) = [wOrg, decL (a : Int)] := by
  have hc : (59 : UInt8) ∉ orgL a := by
    intro h
    unfold orgL at h
    rcases List.mem_append.1 h with h | h
    · revert h; decide
    · rcases dec_bytes _ _ h with h | h
      · revert h; decide
      · have : (59 : UInt8).toNat = 59 := rfl; omega
  rw [code_no hc, wordsP_eq]
  have := wordsT_join [32] (by simp) (by decide) wOrg [decL (a : Int)] (by
    intro y hy
    simp only [List.mem_cons, List.not_mem_nil, or_false] at hy
    rcases hy with rfl | rfl
    · exact ⟨by decide, by decide⟩
    · exact dec_word _)
  have e : Lib.join [wOrg, decL (a : Int)] [32] = orgL a := by simp [Lib.join, orgL]
  rwa [e] at this
theorem byte_join : ∀ (d : List UInt8) (x : List UInt8), x ++ (d.map fun b => 32 :: hexW b).flatten = Lib.join (x :: d.map hexW) [32]
  | [], x => by simp [Lib.join]
  | b :: r, x => by
    have := byte_join r (hexW b)
    have e : Lib.join (x :: hexW b :: r.map hexW) [32] = x ++ [32] ++ Lib.join (hexW b :: r.map hexW) [32] := by simp [Lib.join]
    rw [List.map_cons, List.map_cons, e, ← this]
    simp
theorem byte_mem (d : List UInt8) : ∀ c ∈ byteL d, c.toNat = 32 ∨ c.toNat = 46 ∨ (48 ≤ c.toNat ∧ c.toNat ≤ 57) ∨ (97 ≤ c.toNat ∧ c.toNat ≤ 121) := by
  intro c hc
  unfold byteL at hc
  rcases List.mem_append.1 hc with h | h
  · have : ∀ c ∈ wByte, c.toNat = 32 ∨ c.toNat = 46 ∨ (48 ≤ c.toNat ∧ c.toNat ≤ 57) ∨ (97 ≤ c.toNat ∧ c.toNat ≤ 121) := by decide
    exact this c h
  · obtain ⟨l, h1, h2⟩ := List.mem_flatten.1 h
    obtain ⟨b, _, rfl⟩ := List.mem_map.1 h1
    rcases List.mem_cons.1 h2 with h | h
    · subst h; exact .inl rfl
    · have := hexW_bytes b c h; omega
theorem byte_words (d : List UInt8) : wordsP (codeL (byteL d)) = wByte :: d.map hexW := by
  have hc : (59 : UInt8) ∉ byteL d := fun h => absurd (byte_mem d 59 h) (by decide)
  rw [code_no hc, wordsP_eq]
  unfold byteL
  rw [byte_join]
  exact wordsT_join [32] (by simp) (by decide) wByte _ (by
    intro y hy
    rcases List.mem_cons.1 hy with rfl | h
    · exact ⟨by decide, by decide⟩
    · obtain ⟨b, _, rfl⟩ := List.mem_map.1 h
      exact hexW_word b)
/-- Bytes put from a place on. -/
def putD : List UInt8 → Nat → List UInt8 → List UInt8
  | l, _, [] => l
  | l, a, b :: r => putD (l.set a b) (a + 1) r
theorem putD_len : ∀ (x l : List UInt8) (a : Nat), (putD l a x).length = l.length
  | [], _, _ => rfl
  | b :: r, l, a => by rw [putD, putD_len r, List.length_set]
theorem putD_get : ∀ (x l : List UInt8) (a k : Nat), (putD l a x).getD k 0 = if a ≤ k ∧ k < a + x.length ∧ k < l.length then x.getD (k - a) 0 else l.getD k 0
  | [], l, a, k => by rw [putD, if_neg (by simp only [List.length_nil]; omega)]
  | b :: r, l, a, k => by
    rw [putD, putD_get r, List.length_set, getD_set, List.length_cons]
    by_cases h : a = k ∧ k < l.length
    · rw [if_neg (by omega), if_pos h, if_pos (by omega), show k - a = 0 by omega]
      rfl
    · rw [if_neg h]
      by_cases h2 : a + 1 ≤ k ∧ k < a + 1 + r.length ∧ k < l.length
      · rw [if_pos h2, if_pos (by omega), show k - a = (k - (a + 1)) + 1 by omega]
        rfl
      · rw [if_neg h2, if_neg (by omega)]
theorem putV_one (l : List UInt8) (i : Nat) (b : UInt8) : putV l i b.toNat 1 = l.set i b := by
  show l.set (i + 0) (UInt8.ofNat (b.toNat / 256 ^ 0)) = _
  rw [Nat.add_zero, Nat.pow_zero, Nat.div_one]
  simp
theorem values_bytes (p : Prg) (i : Nat) : ∀ (x : List UInt8) (k : Nat) (d : List UInt8), valuesR p 1 i (x.map hexW) k d = (0, putD d (i + k) x)
  | [], k, d => rfl
  | b :: r, k, d => by
    have hb := b.toNat_lt
    have hn : numberV (hexW b) (frV 1) (toV 1) = ((b.toNat : Int), 0) := num_hex b
    rw [List.map_cons, valuesR, hn, if_neg (by rintro ⟨q, _⟩; cases q), if_pos rfl]
    have e : (((b.toNat : Int)) % 4294967296).toNat = b.toNat := by omega
    simp only [e]
    rw [Nat.mul_one, putV_one, values_bytes p i r (k + 1), putD, Nat.add_assoc]
/-- What is laid of segments, and what rows are left. -/
def layB (l : List Bool) : List SegV → List Bool
  | [] => l
  | s :: r => layB (setR l s.at_ s.d.length) r
def datB (d : List UInt8) : List SegV → List UInt8
  | [] => d
  | s :: r => datB (putD d s.at_ s.d) r
def rowsB (h : Nat) : List SegV → List (List (List UInt8) × Nat)
  | [] => []
  | s :: r => ([wOrg, decL (s.at_ : Int)], h) :: (wByte :: s.d.map hexW, s.at_) :: rowsB (s.at_ + s.d.length) r
def endB (h : Nat) : List SegV → Nat
  | [] => h
  | s :: r => endB (s.at_ + s.d.length) r
/-- Segments may be: not empty, within memory, in order, apart from one another. -/
def FitB : Option Nat → List SegV → Prop
  | _, [] => True
  | e, s :: r => s.d ≠ [] ∧ (∀ x, e = some x → x < s.at_) ∧ s.at_ + s.d.length ≤ 16384 ∧ FitB (some (s.at_ + s.d.length)) r
theorem layB_low : ∀ (S : List SegV) (l : List Bool) (e k : Nat), FitB (some e) S → k ≤ e → (layB l S).getD k false = l.getD k false
  | [], _, _, _, _, _ => rfl
  | s :: r, l, e, k, h, hk => by
    obtain ⟨h1, h2, h3, h4⟩ := h
    have := h2 e rfl
    rw [layB, layB_low r _ _ k h4 (by omega), setR_get, if_neg (by omega)]
theorem datB_low : ∀ (S : List SegV) (d : List UInt8) (e k : Nat), FitB (some e) S → k ≤ e → (datB d S).getD k 0 = d.getD k 0
  | [], _, _, _, _, _ => rfl
  | s :: r, d, e, k, h, hk => by
    obtain ⟨h1, h2, h3, h4⟩ := h
    have := h2 e rfl
    rw [datB, datB_low r _ _ k h4 (by omega), putD_get, if_neg (by omega)]
theorem layB_len : ∀ (S : List SegV) (l : List Bool), (layB l S).length = l.length
  | [], _ => rfl
  | s :: r, l => by rw [layB, layB_len r, setR_len]
theorem lies_B : ∀ (S : List SegV) (l : List Bool) (d : List UInt8) (e : Nat) (o : Option Nat), l.length = 16384 → d.length = 16384 → FitB o S → (∀ s, S.head? = some s → e ≤ s.at_) → (∀ k, e ≤ k → l.getD k false = false) → Lies (layB l S) (datB d S) e S
  | [], l, d, e, o, hl, hd, h, he, h0 => fun k hk _ => h0 k hk
  | s :: r, l, d, e, o, hl, hd, h, he, h0 => by
    obtain ⟨h1, h2, h3, h4⟩ := h
    have hes := he s rfl
    have hhd : ∀ t, r.head? = some t → s.at_ + s.d.length < t.at_ := fun t ht => by
      cases r with
      | nil => cases ht
      | cons a b =>
        injection ht with ht
        subst ht
        exact h4.2.1 _ rfl
    refine ⟨hes, h1, fun k k1 k2 => ?_, fun j hj => ⟨?_, ?_⟩, h3, hhd, ?_⟩
    · rw [layB, layB_low r _ _ k h4 (by omega), setR_get, if_neg (by omega)]
      exact h0 k k1
    · rw [layB, layB_low r _ _ _ h4 (by omega), setR_get, if_pos (by omega)]
    · rw [datB, datB_low r _ _ _ h4 (by omega), putD_get, if_pos (by omega), show s.at_ + j - s.at_ = j by omega]
    · exact lies_B r _ _ _ _ (by rw [setR_len, hl]) (by rw [putD_len, hd]) h4 (fun t ht => Nat.le_of_lt (hhd t ht)) (fun k hk => by rw [setR_get, if_neg (by omega)]; exact h0 k (by omega))
theorem hexW_tail (d : List UInt8) (h : d ≠ []) : ∃ a r, d.map hexW = a :: r := by
  cases d with
  | nil => exact absurd rfl h
  | cons b r => exact ⟨_, _, rfl⟩
theorem first_B : ∀ (S : List SegV) (p : Prg) (i : Nat) (o : Option Nat), FitB o S → p.laid.length = 16384 → (∀ s, S.head? = some s → ∀ k, s.at_ ≤ k → p.laid.getD k false = false) → firstA p (linesB S) i = ((0, 0), { p with rows := p.rows ++ rowsB p.here S, here := endB p.here S, laid := layB p.laid S })
  | [], p, i, o, _, _, _ => by
    show ((0, 0), p) = _
    unfold rowsB
    rw [List.append_nil]
    rfl
  | s :: r, p, i, o, h, hl, h0 => by
    obtain ⟨h1, h2, h3, h4⟩ := h
    have hpos : 0 < s.d.length := List.length_pos_iff.2 h1
    have e1 : firstV p (orgL s.at_) = (0, { p with rows := p.rows ++ [([wOrg, decL (s.at_ : Int)], p.here)], here := s.at_ }) := by
      unfold firstV
      rw [org_words, firstW_do _ _ (by decide), doV_dir _ _ (by decide)]
      show orgV _ (decL (s.at_ : Int)) = _
      unfold orgV
      rw [num_dec (s.at_ : Int) 0 16384 (by omega) (by omega) (by omega) (by omega), if_pos rfl]
      rfl
    have e2 : firstV { p with rows := p.rows ++ [([wOrg, decL (s.at_ : Int)], p.here)], here := s.at_ } (byteL s.d) = (0, { p with rows := p.rows ++ [([wOrg, decL (s.at_ : Int)], p.here)] ++ [(wByte :: s.d.map hexW, s.at_)], here := s.at_ + s.d.length, laid := setR p.laid s.at_ s.d.length }) := by
      unfold firstV
      rw [byte_words, firstW_do _ _ (by decide), doV_dir _ _ (by decide)]
      obtain ⟨a, t, hat⟩ := hexW_tail s.d h1
      have hlen : (s.d.map hexW).length = s.d.length := List.length_map _
      have e3 : ∀ (q : Prg) (y : List (List UInt8)), y ≠ [] → dirV q 5 y = layV q y.length false := fun q y hy => by
        cases y with
        | nil => exact absurd rfl hy
        | cons a b => rfl
      rw [show dirK wByte = 5 by decide, e3 _ _ (by rw [hat]; simp), hlen]
      refine (lay_ok ?_ ?_ ?_).trans ?_
      · exact fun q => by cases q
      · exact h3
      · exact fun k k1 _ => h0 s rfl k k1
      · rfl
    have hhd : ∀ t, r.head? = some t → s.at_ + s.d.length < t.at_ := fun t ht => by
      cases r with
      | nil => cases ht
      | cons a b =>
        injection ht with ht
        subst ht
        exact h4.2.1 _ rfl
    show firstA p (orgL s.at_ :: byteL s.d :: linesB r) i = _
    rw [firstA_cons, e1, if_pos rfl, firstA_cons, e2, if_pos rfl]
    have e4 := first_B r { p with rows := p.rows ++ [([wOrg, decL (s.at_ : Int)], p.here)] ++ [(wByte :: s.d.map hexW, s.at_)], here := s.at_ + s.d.length, laid := setR p.laid s.at_ s.d.length } (i + 1 + 1) (some (s.at_ + s.d.length)) h4 (by show (setR p.laid s.at_ s.d.length).length = _; rw [setR_len, hl]) (fun t ht k hk => by
      have := hhd t ht
      show (setR p.laid s.at_ s.d.length).getD k false = _
      rw [setR_get, if_neg (by omega)]
      exact h0 s rfl k (by omega))
    refine e4.trans ?_
    show ((0, 0), Prg.mk (p.rows ++ [([wOrg, decL (s.at_ : Int)], p.here)] ++ [(wByte :: s.d.map hexW, s.at_)] ++ rowsB (s.at_ + s.d.length) r) p.names p.vals (endB (s.at_ + s.d.length) r) p.data (layB (setR p.laid s.at_ s.d.length) r)) = _
    rw [List.append_assoc, List.append_assoc]
    rfl
theorem second_B (p : Prg) : ∀ (S : List SegV) (h i : Nat) (d : List UInt8), secondA p (rowsB h S) i d = ((0, 0), datB d S)
  | [], _, _, _ => rfl
  | s :: r, h, i, d => by
    have e1 : secondV p [wOrg, decL (s.at_ : Int)] h d = (0, d) := by
      rw [secondV_cons, if_neg (by decide), if_neg (by decide), if_pos (by decide)]
    have e2 : secondV p (wByte :: s.d.map hexW) s.at_ d = (0, putD d s.at_ s.d) := by
      rw [secondV_cons, if_neg (by decide), if_pos rfl, values_bytes, Nat.add_zero]
    rw [rowsB, secondA_two, e1, if_pos rfl, secondA_two, e2, if_pos rfl, second_B p r]
    rfl
/-- Segments, told byte by byte, come to themselves. -/
theorem bytes_all (S : List SegV) (h : FitB none S) (hl : (linesV (bs (joinN (linesB S)))).2 = 0 ∧ linesP (joinN (linesB S)) = linesB S) : assembleV (joinN (linesB S)) = ⟨0, 0, (startV none S, S), []⟩ := by
  unfold assembleV
  rw [if_pos hl.1, hl.2]
  unfold asmL
  rw [first_B S p00 0 none h laid00_len (fun _ _ k _ => laid00 k)]
  unfold asmP
  rw [if_pos rfl]
  show doneA _ (secondA _ ([] ++ rowsB 0 S) 0 p00.data) = _
  rw [List.nil_append, second_B]
  unfold doneA
  rw [if_pos rfl]
  have hs : segsTo (layB p00.laid S) (datB p00.data S) 16384 = S := segs_all (lies_B S _ _ 0 none laid00_len data00_len h (fun _ _ => Nat.zero_le _) (fun k _ => laid00 k))
  show AsmV.mk 0 0 (startV none (segsTo (layB p00.laid S) (datB p00.data S) 16384), segsTo (layB p00.laid S) (datB p00.data S) 16384) [] = _
  rw [hs]
end Go.Proofs.YtaclidjhgpkmpaaDoor.My
set_option linter.unusedSimpArgs false
set_option linter.unusedVariables false
namespace Go.Proofs.YtaclidjhgpkmpaaDoor.My
open Go.ChangeShapes Go.WideShapes Go.ChangeAt Go.RowKit
section
variable {w : World} {H : Type} {enc : TypeId × Value → H} {base : Nat} {spare : Nat → Bool} {held : Bool}
theorem el_ints {l : List UInt8} {k : Nat} {c : UInt8} (h : l[k]? = some c) : el (ints l) k = (c.toNat : Int) := by simp [el, ints, h]
theorem of_nat {n : Nat} (h : n < 256) : (((UInt8.ofNat n).toNat : Nat) : Int) = (n : Int) := by rw [UInt8.toNat_ofNat', Nat.mod_eq_of_lt (by omega)]
theorem fld {t : TypeId} {fs : Array Field} {fuel : Nat} {cs : List Value} {x : DataW H × List MemPlace} {m : Nat} (ht : Tryd.prog.underlying t = some (.struct fs)) (h : DataW.trod enc Tryd.prog w base spare held fuel t cs = some x) (i : Nat) (f : Field) (hf : fs[i]? = some f) (hm : Tryd.prog.cellsOf f.type = m) :
    ∃ n y, DataW.trod enc Tryd.prog w base spare held n f.type ((cs.drop f.offset).take m) = some y := by
  obtain ⟨xs, n, _, _, _, hl, hfi⟩ := DataW.trod_struct ht h
  have h2 := hfi i f hf
  have hi : i < xs.length := by rw [hl]; exact (Array.getElem?_eq_some_iff.1 hf).1
  rw [List.getElem?_eq_getElem hi, hm] at h2
  exact ⟨n, _, h2⟩
theorem split_cons {α : Type} {n : Nat} {cs : List α} (h : cs.length = n + 1) : ∃ c cs', cs = c :: cs' ∧ cs'.length = n := by
  cases cs with
  | nil => simp at h
  | cons c cs => exact ⟨c, cs, rfl, by simpa using h⟩
end
theorem cells_range {w : World} {base : Nat} {b off n : Nat} {cs : List Value} (h : w.cells? base ⟨b, off, none⟩ n = some cs) : cs.length = n ∧ w.rangeAt b off cs := by
  unfold World.cells? at h
  split at h
  · refine ⟨by simpa using mapM_some_length h, fun j v hv => ?_⟩
    have hj : j < cs.length := (List.getElem?_eq_some_iff.1 hv).1
    have hl : cs.length = n := by simpa using mapM_some_length h
    have h2 := mapM_some_get h j j (by simp [List.getElem?_range (show j < n by omega)])
    rw [hv, addr_add] at h2
    exact h2
  · cases h
theorem cells_spot {w : World} {base : Nat} {a : Addr} {n : Nat} {cs : List Value} (h : w.cells? base a n = some cs) (hn : 0 < n) : a.spot = none := by
  unfold World.cells? at h
  split at h
  · have hl : cs.length = n := by simpa using mapM_some_length h
    have h2 := mapM_some_get h 0 0 (by simp [List.getElem?_range hn])
    rw [List.getElem?_eq_getElem (show 0 < cs.length by omega)] at h2
    simpa [Addr.add] using World.cell?_spot h2
  · cases h
/-- A slice of rows of cells, each of a known shape. -/
theorem open_rows_at {α : Type} {w : World} {H : Type} {enc : TypeId × Value → H} {base : Nat} {spare : Nat → Bool} {held : Bool} {t e : TypeId} {v : Value} (k : Nat) (f : α → Array Value) (z : α) (Pa : α → Prop) (ht : Tryd.prog.underlying t = some (.slice e)) (hk : Tryd.prog.cellsOf e = k) (hk0 : 0 < k)
    (hsh : ∀ n cs x, DataW.trod enc Tryd.prog w base spare held n e cs = some x → ∃ u, cs = (f u).toList ∧ Pa u) (hf : ∀ u, (f u).size = k) {fuel : Nat} {x : DataW H × List MemPlace} (h : DataW.trod enc Tryd.prog w base spare held fuel t [v] = some x) :
    ∃ (A : Option Addr) (c : Nat) (us : List α), v = .slice A us.length c ∧ RwA w A k us.length (us.map f) ∧ us.length ≤ maxLen ∧ us.length ≤ c ∧ (A = none → c = 0) ∧ ∀ u ∈ us, Pa u := by
  rcases Go.Deep.open_slice ht h with ⟨hcs, _⟩ | ⟨a, len, cap, m, n, D, Pl, hcs, hb, hl, hm, hmm, _, hel⟩
  · simp only [List.cons.injEq, and_true] at hcs
    subst hcs
    exact ⟨none, 0, [], rfl, ⟨rfl, (fun r hr => by cases hr), fun h => absurd h (Nat.lt_irrefl 0)⟩, Nat.zero_le _, Nat.le_refl _, (fun _ => rfl), fun u hu => by cases hu⟩
  · simp only [List.cons.injEq, and_true] at hcs
    subst hcs
    have hlm : len ≤ m := by rw [hmm]; split <;> omega
    have hx : ∀ i, i < len → ∃ u, w.cells? base (a.add (i * k)) k = some (f u).toList ∧ Pa u := fun i hi => by
      obtain ⟨cs', h1, h2⟩ := hel i (by omega)
      obtain ⟨u, rfl, hu⟩ := hsh _ _ _ h2
      rw [hk] at h1
      exact ⟨u, h1, hu⟩
    obtain ⟨U, hU⟩ : ∃ U : Nat → α, ∀ i, i < len → w.cells? base (a.add (i * k)) k = some (f (U i)).toList ∧ Pa (U i) := by
      refine ⟨fun i => if h : i < len then Classical.choose (hx i h) else z, fun i hi => ?_⟩
      simp only [dif_pos hi]
      exact Classical.choose_spec (hx i hi)
    have hlen : ((List.range len).map U).length = len := by simp
    refine ⟨some a, cap, (List.range len).map U, by rw [hlen], ⟨by simp, (fun r hr => ?_), fun hn => ?_⟩, by rw [hlen]; omega, by rw [hlen]; omega, (fun h => by cases h), (fun u hu => ?_)⟩
    · obtain ⟨u, _, rfl⟩ := List.mem_map.1 hr
      exact hf u
    · rw [hlen] at hn
      obtain ⟨b, off, spot⟩ := a
      have h0 := (hU 0 hn).1
      rw [Nat.zero_mul] at h0
      have hs : spot = none := by simpa [Addr.add] using cells_spot h0 hk0
      subst hs
      refine ⟨b, off, rfl, ?_, fun j r hr => ?_⟩
      · rw [addr_add] at h0
        have h1 := (cells_range h0).2
        have hp : 0 < (f (U 0)).toList.length := by simp [hf]; exact hk0
        exact World.block_lt_of_cell? w _ (h1 0 _ (List.getElem?_eq_getElem hp))
      · have hj : j < len := by
          have := (List.getElem?_eq_some_iff.1 hr).1
          simpa using this
        have h1 := (hU j hj).1
        rw [addr_add] at h1
        have hr' : f (U j) = r := by
          rw [List.getElem?_map, List.getElem?_map, List.getElem?_range hj] at hr
          simpa using hr
        rw [← hr']
        exact (cells_range h1).2
    · obtain ⟨i, hi, rfl⟩ := List.mem_map.1 hu
      exact (hU i (by simpa using hi)).2
theorem okWide_slice {P : Program} {w : World} {r : Reach} {base : Nat} {t e : TypeId} {v : Value} (ht : P.underlying t = some (.slice e)) (h : Value.okWide P w r base t v) : v.cells.toList = [v] := by
  unfold Value.okWide at h
  rw [ht] at h
  cases v <;> simp_all [Value.cells, Cell.okWide, Cell.ok]

/-- A segment of an argument. -/
def SegG (w : World) (m : SegM) : Prop := m.at_ < 4294967296 ∧ m.d.length ≤ maxLen ∧ m.d.length ≤ m.c ∧ RdA .u8 w m.D m.d.length (ints m.d)
def b1 (c : UInt8) : Array Value := #[.int .u8 (c.toNat : Int)]
theorem rd_rows {w : World} {A : Option Addr} {d : List UInt8} (h : RwA w A 1 d.length (d.map b1)) : RdA .u8 w A d.length (ints d) := by
  refine ⟨by simp [ints], fun hn => ?_⟩
  obtain ⟨b, off, hA, _, hc⟩ := h.2.2 hn
  refine ⟨b, off, hA, fun j hj => ?_⟩
  obtain ⟨c, hcj⟩ : ∃ c, d[j]? = some c := ⟨_, List.getElem?_eq_getElem hj⟩
  have h1 := hc j (b1 c) (by simp [hcj]) 0 (.int .u8 (c.toNat : Int)) rfl
  rw [Nat.mul_one, Nat.add_zero] at h1
  rw [el_ints hcj]
  exact h1
section
variable {w : World} {H : Type} {enc : TypeId × Value → H} {base : Nat} {spare : Nat → Bool} {held : Bool}
theorem byte_of {fuel : Nat} {cs : List Value} {x : DataW H × List MemPlace} (h : DataW.trod enc Tryd.prog w base spare held fuel 5 cs = some x) : ∃ u : UInt8, cs = (b1 u).toList ∧ True := by
  obtain ⟨n, rfl, _, wf⟩ := DataW.trod_int Tryd.underlying5 h
  have hw := wf_u8 wf
  refine ⟨UInt8.ofNat n.toNat, ?_, trivial⟩
  show [Value.int .u8 n] = [Value.int .u8 ((UInt8.ofNat n.toNat).toNat : Int)]
  rw [of_nat (show n.toNat < 256 by omega)]
  rw [show ((n.toNat : Nat) : Int) = n by omega]
set_option maxRecDepth 100000 in
theorem bytes_of {fuel : Nat} {v : Value} {x : DataW H × List MemPlace} (h : DataW.trod enc Tryd.prog w base spare held fuel 38 [v] = some x) : ∃ (D : Option Addr) (c : Nat) (d : List UInt8), v = .slice D d.length c ∧ RdA .u8 w D d.length (ints d) ∧ d.length ≤ maxLen ∧ d.length ≤ c ∧ (D = none → c = 0) := by
  obtain ⟨A, c, us, h1, h2, h3, h4, h5, _⟩ := open_rows_at 1 b1 0 (fun _ => True) Tryd.underlying38 (by kernel_rfl) (by omega) (fun n cs x h => byte_of h) (fun u => rfl) h
  exact ⟨A, c, us, h1, rd_rows h2, h3, h4, h5⟩
set_option maxRecDepth 100000 in
theorem seg_of {fuel : Nat} {cs : List Value} {x : DataW H × List MemPlace} (h : DataW.trod enc Tryd.prog w base spare held fuel 40 cs = some x) : ∃ m : SegM, cs = (sA m).toList ∧ SegG w m := by
  obtain ⟨_, _, _, _, hlen, _, _⟩ := DataW.trod_struct Tryd.underlying40 h
  have hlen : cs.length = 2 := hlen.trans (by kernel_rfl)
  obtain ⟨c0, r0, rfl, l0⟩ := split_cons hlen
  obtain ⟨c1, r1, rfl, l1⟩ := split_cons l0
  obtain rfl := List.eq_nil_of_length_eq_zero l1
  obtain ⟨n1, y1, h1⟩ := fld (m := 1) Tryd.underlying40 h 0 _ rfl (by kernel_rfl)
  replace h1 : DataW.trod enc Tryd.prog w base spare held n1 25 [c0] = some y1 := h1
  obtain ⟨n2, y2, h2⟩ := fld (m := 1) Tryd.underlying40 h 1 _ rfl (by kernel_rfl)
  replace h2 : DataW.trod enc Tryd.prog w base spare held n2 38 [c1] = some y2 := h2
  obtain ⟨a, ea, _, wa⟩ := DataW.trod_int Tryd.underlying25 h1
  obtain rfl := (List.cons.inj ea).1
  obtain ⟨D, c, d, rfl, e1, e2, e3, _⟩ := bytes_of h2
  have hw := wf_u32 wa
  refine ⟨⟨a.toNat, D, c, d⟩, ?_, by show a.toNat < _; omega, e2, e3, e1⟩
  show [Value.int .u32 a, .slice D d.length c] = [Value.int .u32 ((a.toNat : Nat) : Int), .slice D d.length c]
  rw [show ((a.toNat : Nat) : Int) = a by omega]
end
/-- A slice of segments of an argument. -/
def RdSgG (w : World) (A : Option Addr) (ms : List SegM) : Prop := RwA w A 2 ms.length (ms.map sA) ∧ ∀ m ∈ ms, SegG w m
theorem RdSgG.below {w w' : World} {A : Option Addr} {ms : List SegM} (h : RdSgG w A ms) (hb : Below w.heap.size w w') : RdSgG w' A ms :=
  ⟨h.1.below hb, fun m hm => ⟨(h.2 m hm).1, (h.2 m hm).2.1, (h.2 m hm).2.2.1, (h.2 m hm).2.2.2.below hb⟩⟩
theorem RdSgG.small {w : World} {A : Option Addr} {ms : List SegM} (h : RdSgG w A ms) (hs : ∀ m ∈ ms, m.d.length ≤ 1000000) : RdSg w A ms :=
  ⟨h.1, fun m hm => ⟨(h.2 m hm).1, hs m hm, (h.2 m hm).2.2.1, (h.2 m hm).2.2.2⟩⟩
set_option maxRecDepth 100000 in
theorem open_image {w : World} {H : Type} {enc : TypeId × Value → H} {r : Reach} {b0 base : Nat} {spare : Nat → Bool} {held : Bool} {v : Value} {d : DataW H} {ps : List MemPlace} (hval : Value.okWide Tryd.prog w r b0 34 v) (hd : DataW.Trod enc Tryd.prog w base spare held 34 v d ps) :
    ∃ (st : Nat) (S : Option Addr) (ms : List SegM) (c : Nat), v = .agg (imA st S ms.length c) ∧ st < 4294967296 ∧ RdSgG w S ms ∧ ms.length ≤ maxLen ∧ ms.length ≤ c := by
  obtain ⟨cs, rfl, hc⟩ := open_row Tryd.underlying34 rfl (ts := [25, 32]) (by kernel_rfl) (by kernel_rfl) hval
  obtain ⟨c0, r0, rfl, _, hc⟩ := hc.cons
  obtain ⟨c1, r1, rfl, _, hc⟩ := hc.cons
  obtain rfl := hc.nil
  obtain ⟨fuel, h⟩ := hd
  replace h : DataW.trod enc Tryd.prog w base spare held fuel 34 [c0, c1] = some (d, ps) := h
  obtain ⟨n1, y1, h1⟩ := fld (m := 1) Tryd.underlying34 h 0 _ rfl (by kernel_rfl)
  replace h1 : DataW.trod enc Tryd.prog w base spare held n1 25 [c0] = some y1 := h1
  obtain ⟨n2, y2, h2⟩ := fld (m := 1) Tryd.underlying34 h 1 _ rfl (by kernel_rfl)
  replace h2 : DataW.trod enc Tryd.prog w base spare held n2 32 [c1] = some y2 := h2
  obtain ⟨a, ea, _, wa⟩ := DataW.trod_int Tryd.underlying25 h1
  obtain rfl := (List.cons.inj ea).1
  obtain ⟨A, c, us, rfl, e1, e2, e3, _, e5⟩ := open_rows_at 2 sA ⟨0, none, 0, []⟩ (SegG w) Tryd.underlying32 (by kernel_rfl) (by omega) (fun n cs x h => seg_of h) (fun u => rfl) h2
  have hw := wf_u32 wa
  refine ⟨a.toNat, A, us, c, ?_, by omega, ⟨e1, e5⟩, e2, e3⟩
  show Value.agg #[.int .u32 a, .slice A us.length c] = Value.agg #[.int .u32 ((a.toNat : Nat) : Int), .slice A us.length c]
  rw [show ((a.toNat : Nat) : Int) = a by omega]
end Go.Proofs.YtaclidjhgpkmpaaDoor.My
set_option linter.unusedSimpArgs false
set_option linter.unusedVariables false
namespace Go.Proofs.YtaclidjhgpkmpaaDoor.My
open Go.RowKit
theorem segV_iff (a b : SegV) : (a.at_ = b.at_ ∧ a.d = b.d) ↔ a = b := by
  obtain ⟨x, y⟩ := a
  obtain ⟨z, u⟩ := b
  constructor
  · rintro ⟨rfl, rfl⟩; rfl
  · intro h; injection h with h1 h2; exact ⟨h1, h2⟩
instance decSegV : DecidableEq SegV := fun a b => decidable_of_iff _ (segV_iff a b)
theorem bytesS_any (A1 A2 : Option Addr) (c1 c2 : Nat) (l1 l2 : List UInt8) (w : World) (h1 : RdA .u8 w A1 l1.length (ints l1)) (h2 : RdA .u8 w A2 l2.length (ints l2)) (hm1 : l1.length ≤ 9223372036854775807) (hm2 : l2.length ≤ 9223372036854775807) : Calls Tryd.prog 28 #[.slice A1 l1.length c1, .slice A2 l2.length c2] w fun e w' => e = .returned (.bool (decide (l1 = l2))) ∧ Below w.heap.size w w' := by
  have HX := Lib.hid h1
  have HY := Lib.hid h2
  have HB := startB w
  clear h1 h2
  obtain ⟨R, hR⟩ : ∃ R, decide (l1 = l2) = R := ⟨_, rfl⟩
  rw [hR]
  by_cases q : l1.length = l2.length
  · have HR : Hid (decide (l1.drop 0 = l2.drop 0) = R) := Lib.hid hR
    clear hR
    obtain ⟨n2, hn2⟩ : ∃ n, l2.length = n := ⟨_, rfl⟩
    have HN := Lib.hid hn2
    rw [hn2] at HY q hm2 ⊢
    clear hn2
    go_enter Tryd.func28, Tryd.ntmps28
    go_wp2
    go_loopw [5] (fun i wr => ∃ (k : Nat), k ≤ l1.length ∧ i = .int .i64 k ∧ Hid (decide (l1.drop k = l2.drop k) = R) ∧ Hid (RdA .u8 wr A1 l1.length (ints l1)) ∧ Hid (RdA .u8 wr A2 n2 (ints l2)) ∧ Hid (Below w.heap.size w wr ∧ w.heap.size ≤ wr.heap.size)) (fun i _ => l1.length - (intOf i).toNat)
    case atStart => exact ⟨0, Nat.zero_le _, rfl, HR, HX, HY, HB⟩
    case round =>
      clear HX HY HB HR
      obtain ⟨k, hk, rfl, HR, HX, HY, HB⟩ := hrel
      by_cases hlt : k < l1.length
      · have hlt2 : k < n2 := by omega
        obtain ⟨b, off, rfl, hc⟩ := HX.out.2 (by omega)
        obtain ⟨b', off', rfl, hc'⟩ := HY.out.2 (by omega)
        obtain ⟨x, hx⟩ : ∃ x, l1[k]? = some x := ⟨_, List.getElem?_eq_getElem hlt⟩
        obtain ⟨y, hy⟩ : ∃ y, l2[k]? = some y := ⟨_, List.getElem?_eq_getElem (by rw [HN.out]; exact hlt2)⟩
        have e1 := hc k hlt
        have e2 := hc' k hlt2
        rw [el_ints hx] at e1
        rw [el_ints hy] at e2
        have hr := HR.out
        rw [drop_cons hx, drop_cons hy] at hr
        clear hc hc' HR hx hy
        by_cases e : x = y
        · subst e
          have HR : Hid (decide (l1.drop (k + 1) = l2.drop (k + 1)) = R) := Lib.hid (by rw [← hr]; exact decide_eq_decide.2 ⟨fun h => by rw [h], fun h => (List.cons.inj h).2⟩)
          clear hr
          go_wp2
          go_region
          replace HX := Lib.hid (HX.out.drew 1)
          replace HY := Lib.hid (HY.out.drew 1)
          replace HB := keepB1 HB
          go_wp2
          go_roundw
          case rel => exact ⟨k + 1, by omega, by first | trivial | go_num, HR, HX, HY, HB⟩
          case measure => simp [intOf]; omega
        · have hne : ((x.toNat : Int) != (y.toNat : Int)) = true := bne_iff_ne.2 (fun h => e (UInt8.toNat_inj.1 (by omega)))
          have hr' : R = false := by rw [← hr]; exact decide_eq_false (fun h => e (List.cons.inj h).1)
          subst hr'
          clear hr
          go_wp2
          go_region
          replace HB := keepB1 HB
          go_wp2
          go_ret
          exact ⟨rfl, HB.out.1⟩
      · obtain rfl : k = l1.length := by omega
        have hr := HR.out
        have hr' : R = true := by rw [← hr]; exact decide_eq_true (by rw [List.drop_eq_nil_of_le (Nat.le_refl _), List.drop_eq_nil_of_le (by rw [HN.out]; omega)])
        subst hr'
        clear hr
        go_wp2
        go_ret
        exact ⟨rfl, HB.out.1⟩
  · have hr' : R = false := by rw [← hR]; exact decide_eq_false (fun h => q (by rw [h]))
    subst hr'
    have hne : ((l1.length : Int) != (l2.length : Int)) = true := bne_iff_ne.2 (by omega)
    clear hR
    go_enter Tryd.func28, Tryd.ntmps28
    go_wp2
    go_ret
    exact ⟨rfl, HB.out.1⟩
theorem RdSgG.drew {w : World} {A : Option Addr} {ms : List SegM} (h : RdSgG w A ms) (m : Nat) : RdSgG (w.drewN m) A ms := h
theorem cell_below {w w' : World} {a : Addr} {v : Value} (h : w.cell? a = some v) (hb : Below w.heap.size w w') : w'.cell? a = some v := (hb.cell (World.block_lt_of_cell? w _ h)).trans h
set_option maxRecDepth 100000 in
set_option maxHeartbeats 4000000 in
theorem sameimg_any (s1 c1 s2 c2 : Nat) (S1 S2 : Option Addr) (xs ys : List SegM) (w : World) (h1 : RdSgG w S1 xs) (h2 : RdSgG w S2 ys) (hmx : xs.length ≤ 9223372036854775806) (hmy : ys.length ≤ 9223372036854775806) :
    Calls Tryd.prog 13 #[.agg (imA s1 S1 xs.length c1), .agg (imA s2 S2 ys.length c2)] w fun e w' => e = .returned (.bool (decide (s1 = s2 ∧ xs.map SegM.v = ys.map SegM.v))) ∧ Below w.heap.size w w' := by
  have HX := Lib.hid h1
  have HY := Lib.hid h2
  have HB := startB w
  clear h1 h2
  obtain ⟨R, hR⟩ : ∃ R, decide (s1 = s2 ∧ xs.map SegM.v = ys.map SegM.v) = R := ⟨_, rfl⟩
  rw [hR]
  obtain ⟨n2, hn2⟩ : ∃ n, ys.length = n := ⟨_, rfl⟩
  have HN := Lib.hid hn2
  rw [hn2] at hmy ⊢
  clear hn2
  by_cases qs : s1 = s2
  rotate_left
  · have hr' : R = false := by rw [← hR]; exact decide_eq_false (fun h => qs h.1)
    subst hr'
    have hne : ((s1 : Int) != (s2 : Int)) = true := bne_iff_ne.2 (by omega)
    clear hR
    go_enter Tryd.func13, Tryd.ntmps13
    go_wp2_with (first | (refine wlBox ?_ 34 _ rfl (imA s1 S1 xs.length c1) rfl ?_; exact rfl; intro gI w1 hg hl ha hb; replace HX := Lib.hid (HX.out.below hb); replace HY := Lib.hid (HY.out.below hb); replace HB := keepB HB hb; have HI := Lib.hid ha; have i0 : w1.cell? ⟨gI, 0, none⟩ = some (.int .u32 s1) := cellA HI 0; have i1 : w1.cell? ⟨gI, 1, none⟩ = some (.slice S1 xs.length c1) := cellA HI 1; clear ha hb hg hl) | (refine wlBox ?_ 34 _ rfl (imA s2 S2 n2 c2) rfl ?_; exact rfl; intro gJ w2 hg hl ha hb; replace HX := Lib.hid (HX.out.below hb); replace HY := Lib.hid (HY.out.below hb); replace HB := keepB HB hb; replace HI := keepA HI hb; have HJ := Lib.hid ha; have i0 : w2.cell? ⟨gI, 0, none⟩ = some (.int .u32 s1) := cellA HI 0; have i1 : w2.cell? ⟨gI, 1, none⟩ = some (.slice S1 xs.length c1) := cellA HI 1; have j0 : w2.cell? ⟨gJ, 0, none⟩ = some (.int .u32 s2) := cellA HJ 0; have j1 : w2.cell? ⟨gJ, 1, none⟩ = some (.slice S2 n2 c2) := cellA HJ 1; clear ha hb hg hl))
    go_ret
    exact ⟨rfl, HB.out.1⟩
  subst qs
  by_cases q : xs.length = n2
  rotate_left
  · have hr' : R = false := by rw [← hR]; exact decide_eq_false (fun h => q (by have := congrArg List.length h.2; rw [List.length_map, List.length_map, HN.out] at this; exact this))
    subst hr'
    have hne : ((xs.length : Int) != (n2 : Int)) = true := bne_iff_ne.2 (by omega)
    clear hR
    go_enter Tryd.func13, Tryd.ntmps13
    go_wp2_with (first | (refine wlBox ?_ 34 _ rfl (imA s1 S1 xs.length c1) rfl ?_; exact rfl; intro gI w1 hg hl ha hb; replace HX := Lib.hid (HX.out.below hb); replace HY := Lib.hid (HY.out.below hb); replace HB := keepB HB hb; have HI := Lib.hid ha; have i0 : w1.cell? ⟨gI, 0, none⟩ = some (.int .u32 s1) := cellA HI 0; have i1 : w1.cell? ⟨gI, 1, none⟩ = some (.slice S1 xs.length c1) := cellA HI 1; clear ha hb hg hl) | (refine wlBox ?_ 34 _ rfl (imA s1 S2 n2 c2) rfl ?_; exact rfl; intro gJ w2 hg hl ha hb; replace HX := Lib.hid (HX.out.below hb); replace HY := Lib.hid (HY.out.below hb); replace HB := keepB HB hb; replace HI := keepA HI hb; have HJ := Lib.hid ha; have i0 : w2.cell? ⟨gI, 0, none⟩ = some (.int .u32 s1) := cellA HI 0; have i1 : w2.cell? ⟨gI, 1, none⟩ = some (.slice S1 xs.length c1) := cellA HI 1; have j0 : w2.cell? ⟨gJ, 0, none⟩ = some (.int .u32 s1) := cellA HJ 0; have j1 : w2.cell? ⟨gJ, 1, none⟩ = some (.slice S2 n2 c2) := cellA HJ 1; clear ha hb hg hl))
    go_ret
    exact ⟨rfl, HB.out.1⟩
  subst q
  have HR : Hid (decide ((xs.drop 0).map SegM.v = (ys.drop 0).map SegM.v) = R) := Lib.hid (by rw [← hR]; exact decide_eq_decide.2 ⟨fun h => ⟨rfl, h⟩, fun h => h.2⟩)
  clear hR
  go_enter Tryd.func13, Tryd.ntmps13
  go_wp2_with (first | (refine wlBox ?_ 34 _ rfl (imA s1 S1 xs.length c1) rfl ?_; exact rfl; intro gI w1 hg hl ha hb; replace HX := Lib.hid (HX.out.below hb); replace HY := Lib.hid (HY.out.below hb); replace HB := keepB HB hb; have HI := Lib.hid ha; have i0 : w1.cell? ⟨gI, 0, none⟩ = some (.int .u32 s1) := cellA HI 0; have i1 : w1.cell? ⟨gI, 1, none⟩ = some (.slice S1 xs.length c1) := cellA HI 1; clear ha hb hg hl) | (refine wlBox ?_ 34 _ rfl (imA s1 S2 xs.length c2) rfl ?_; exact rfl; intro gJ w2 hg hl ha hb; replace HX := Lib.hid (HX.out.below hb); replace HY := Lib.hid (HY.out.below hb); replace HB := keepB HB hb; replace HI := keepA HI hb; have HJ := Lib.hid ha; have i0 : w2.cell? ⟨gI, 0, none⟩ = some (.int .u32 s1) := cellA HI 0; have i1 : w2.cell? ⟨gI, 1, none⟩ = some (.slice S1 xs.length c1) := cellA HI 1; have j0 : w2.cell? ⟨gJ, 0, none⟩ = some (.int .u32 s1) := cellA HJ 0; have j1 : w2.cell? ⟨gJ, 1, none⟩ = some (.slice S2 xs.length c2) := cellA HJ 1; clear ha hb hg hl))
  clear i0 i1 j0 j1
  go_loopw [5] (fun i wr => ∃ (k : Nat), k ≤ xs.length ∧ i = .int .i64 k ∧ Hid (decide ((xs.drop k).map SegM.v = (ys.drop k).map SegM.v) = R) ∧ Hid (RdSgG wr S1 xs) ∧ Hid (RdSgG wr S2 ys) ∧ Hid (wr.heap[gI]? = some (.cells (imA s1 S1 xs.length c1) 34 (0, 0))) ∧ Hid (wr.heap[gJ]? = some (.cells (imA s1 S2 xs.length c2) 34 (0, 0))) ∧ Hid (Below w.heap.size w wr ∧ w.heap.size ≤ wr.heap.size)) (fun i _ => xs.length - (intOf i).toNat)
  case atStart => exact ⟨0, Nat.zero_le _, by first | trivial | rfl, HR, HX, HY, HI, HJ, HB⟩
  case round =>
    clear HX HY HB HR HI HJ
    obtain ⟨k, hk, rfl, HR, HX, HY, HI, HJ, HB⟩ := hrel
    have i1 : wr.cell? ⟨gI, 1, none⟩ = some (.slice S1 xs.length c1) := cellA HI 1
    have j1 : wr.cell? ⟨gJ, 1, none⟩ = some (.slice S2 xs.length c2) := cellA HJ 1
    by_cases hlt : k < xs.length
    · have hlt2 : k < xs.length := by omega
      obtain ⟨x, hx⟩ : ∃ m, xs[k]? = some m := ⟨_, List.getElem?_eq_getElem hlt⟩
      obtain ⟨y, hy⟩ : ∃ m, ys[k]? = some m := ⟨_, List.getElem?_eq_getElem (by rw [HN.out]; exact hlt2)⟩
      obtain ⟨b1, o1, rfl, _, hc1⟩ := HX.out.1.2.2 (by omega)
      obtain ⟨b2, o2, rfl, _, hc2⟩ := HY.out.1.2.2 (by rw [HN.out]; omega)
      obtain ⟨_, mx, _, hrx⟩ := HX.out.2 x (List.mem_of_getElem? hx)
      obtain ⟨_, my, _, hry⟩ := HY.out.2 y (List.mem_of_getElem? hy)
      have HS : Hid ((fun w' => w'.cell? ⟨gI, 1, none⟩ = some (.slice (some ⟨b1, o1, none⟩) xs.length c1) ∧ w'.cell? ⟨gJ, 1, none⟩ = some (.slice (some ⟨b2, o2, none⟩) xs.length c2) ∧ w'.cell? ⟨b1, o1 + k * 2, none⟩ = some (.int .u32 x.at_) ∧ w'.cell? ⟨b1, o1 + k * 2 + 1, none⟩ = some (.slice x.D x.d.length x.c) ∧ w'.cell? ⟨b2, o2 + k * 2, none⟩ = some (.int .u32 y.at_) ∧ w'.cell? ⟨b2, o2 + k * 2 + 1, none⟩ = some (.slice y.D y.d.length y.c)) wr) := Lib.hid ⟨i1, j1, hc1 k (sA x) (sA_get hx) 0 _ rfl, hc1 k (sA x) (sA_get hx) 1 _ rfl, hc2 k (sA y) (sA_get hy) 0 _ rfl, hc2 k (sA y) (sA_get hy) 1 _ rfl⟩
      have hr := HR.out
      rw [drop_cons hx, drop_cons hy, List.map_cons, List.map_cons] at hr
      have HRX := Lib.hid (hrx.drew 1)
      have HRY := Lib.hid (hry.drew 1)
      replace mx : x.d.length ≤ 9223372036854775807 := mx
      replace my : y.d.length ≤ 9223372036854775807 := my
      have ex : x.v = y.v ↔ x.at_ = y.at_ ∧ x.d = y.d := (segV_iff x.v y.v).symm
      clear hc1 hc2 hx hy hrx hry HR
      by_cases qa : x.at_ = y.at_
      · obtain ⟨bd, hbd⟩ : ∃ b, decide (x.d = y.d) = b := ⟨_, rfl⟩
        have HBD := Lib.hid hbd
        have HRR := Lib.hid hr
        have HEX := Lib.hid ex
        clear hbd hr ex
        have hne : ((x.at_ : Int) != (y.at_ : Int)) = false := by rw [qa]; simp
        have HQA := Lib.hid qa
        clear qa
        go_wp2
        clear i1 j1
        replace HX := Lib.hid (HX.out.drew 1)
        replace HY := Lib.hid (HY.out.drew 1)
        replace HB := keepB1 HB
        replace HI := keepA1 HI
        replace HJ := keepA1 HJ
        replace HS : Hid ((fun w' => w'.cell? ⟨gI, 1, none⟩ = some (.slice (some ⟨b1, o1, none⟩) xs.length c1) ∧ w'.cell? ⟨gJ, 1, none⟩ = some (.slice (some ⟨b2, o2, none⟩) xs.length c2) ∧ w'.cell? ⟨b1, o1 + k * 2, none⟩ = some (.int .u32 x.at_) ∧ w'.cell? ⟨b1, o1 + k * 2 + 1, none⟩ = some (.slice x.D x.d.length x.c) ∧ w'.cell? ⟨b2, o2 + k * 2, none⟩ = some (.int .u32 y.at_) ∧ w'.cell? ⟨b2, o2 + k * 2 + 1, none⟩ = some (.slice y.D y.d.length y.c)) (wr.drewN 1)) := Lib.hid HS.out
        refine rgStart (S := (fun w' => w'.cell? ⟨gI, 1, none⟩ = some (.slice (some ⟨b1, o1, none⟩) xs.length c1) ∧ w'.cell? ⟨gJ, 1, none⟩ = some (.slice (some ⟨b2, o2, none⟩) xs.length c2) ∧ w'.cell? ⟨b1, o1 + k * 2, none⟩ = some (.int .u32 x.at_) ∧ w'.cell? ⟨b1, o1 + k * 2 + 1, none⟩ = some (.slice x.D x.d.length x.c) ∧ w'.cell? ⟨b2, o2 + k * 2, none⟩ = some (.int .u32 y.at_) ∧ w'.cell? ⟨b2, o2 + k * 2 + 1, none⟩ = some (.slice y.D y.d.length y.c))) (n := 29) #[false, false, false, false, false, false, false, false, false, false, false, false, false, false, false, false, false, false, false, false, false, false, false, false, false, false, false, false, false] (by kernel_rfl) rfl rfl HS.out (fun hHeld => ?_)
        refine rgTake (i := 0) (N := some 34) (oi := { dst := some 34, op := Op.fieldAddr 34 (Operand.tmp 2) 1, type := 0, pos := "same.go:303", after := #[], guard := none }) (v := ?_) #[true, false, false, false, false, false, false, false, false, false, false, false, false, false, false, false, false, false, false, false, false, false, false, false, false, false, false, false, false] rfl rfl (by kernel_rfl) (fun _ _ _ h => h) (Or.inl ⟨by rfl, ?_⟩) hHeld ?_
        rotate_left
        · intro w' hSw; (try dsimp only at hSw); (obtain ⟨k1, k2, k3, k4, k5, k6⟩ := hSw); go_simp; try with_reducible rfl
        simp only [Act.put, List.setIfInBounds_toArray, List.set_cons_zero, List.set_cons_succ]
        refine rgTake (i := 1) (N := some 35) (oi := { dst := some 35, op := Op.load 32 (Operand.tmp 34), type := 32, pos := "same.go:303", after := #[{ on := 0, ground := Ground.data }], guard := none }) (v := ?_) #[true, true, false, false, false, false, false, false, false, false, false, false, false, false, false, false, false, false, false, false, false, false, false, false, false, false, false, false, false] rfl rfl (by kernel_rfl) (fun _ _ _ h => h) (Or.inl ⟨by rfl, ?_⟩) hHeld ?_
        rotate_left
        · intro w' hSw; (try dsimp only at hSw); (obtain ⟨k1, k2, k3, k4, k5, k6⟩ := hSw); go_simp; try with_reducible rfl
        simp only [Act.put, List.setIfInBounds_toArray, List.set_cons_zero, List.set_cons_succ]
        refine rgTake (i := 2) (N := some 36) (oi := { dst := some 36, op := Op.move (Operand.tmp 5), type := 3, pos := "same.go:303", after := #[], guard := none }) (v := ?_) #[true, true, true, false, false, false, false, false, false, false, false, false, false, false, false, false, false, false, false, false, false, false, false, false, false, false, false, false, false] rfl rfl (by kernel_rfl) (fun _ _ _ h => h) (Or.inl ⟨by rfl, ?_⟩) hHeld ?_
        rotate_left
        · intro w' hSw; (try dsimp only at hSw); (obtain ⟨k1, k2, k3, k4, k5, k6⟩ := hSw); go_simp; try with_reducible rfl
        simp only [Act.put, List.setIfInBounds_toArray, List.set_cons_zero, List.set_cons_succ]
        refine rgTake (i := 3) (N := some 37) (oi := { dst := some 37, op := Op.indexAddr 32 (Operand.tmp 35) (Operand.tmp 36), type := 0, pos := "same.go:303", after := #[{ on := 1, ground := Ground.data }, { on := 2, ground := Ground.data }], guard := none }) (v := _) #[true, true, true, true, false, false, false, false, false, false, false, false, false, false, false, false, false, false, false, false, false, false, false, false, false, false, false, false, false] rfl rfl (by kernel_rfl) (fun _ _ _ h => h) (yieldsIdx (by rfl) 32 _ _ rfl 40 2 Tryd.underlying32 sizeSeg b1 o1 xs.length c1 k rfl rfl hlt) hHeld ?_
        simp only [Act.put, List.setIfInBounds_toArray, List.set_cons_zero, List.set_cons_succ]
        refine rgTake (i := 4) (N := some 38) (oi := { dst := some 38, op := Op.fieldAddr 40 (Operand.tmp 37) 0, type := 0, pos := "same.go:303", after := #[{ on := 3, ground := Ground.data }], guard := none }) (v := ?_) #[true, true, true, true, true, false, false, false, false, false, false, false, false, false, false, false, false, false, false, false, false, false, false, false, false, false, false, false, false] rfl rfl (by kernel_rfl) (fun _ _ _ h => h) (Or.inl ⟨by rfl, ?_⟩) hHeld ?_
        rotate_left
        · intro w' hSw; (try dsimp only at hSw); (obtain ⟨k1, k2, k3, k4, k5, k6⟩ := hSw); go_simp; try with_reducible rfl
        simp only [Act.put, List.setIfInBounds_toArray, List.set_cons_zero, List.set_cons_succ]
        refine rgTake (i := 5) (N := some 39) (oi := { dst := some 39, op := Op.load 25 (Operand.tmp 38), type := 25, pos := "same.go:303", after := #[{ on := 4, ground := Ground.data }], guard := none }) (v := ?_) #[true, true, true, true, true, true, false, false, false, false, false, false, false, false, false, false, false, false, false, false, false, false, false, false, false, false, false, false, false] rfl rfl (by kernel_rfl) (fun _ _ _ h => h) (Or.inl ⟨by rfl, ?_⟩) hHeld ?_
        rotate_left
        · intro w' hSw; (try dsimp only at hSw); (obtain ⟨k1, k2, k3, k4, k5, k6⟩ := hSw); go_simp; try with_reducible rfl
        simp only [Act.put, List.setIfInBounds_toArray, List.set_cons_zero, List.set_cons_succ]
        refine rgTake (i := 6) (N := some 40) (oi := { dst := some 40, op := Op.fieldAddr 34 (Operand.tmp 3) 1, type := 0, pos := "same.go:303", after := #[], guard := none }) (v := ?_) #[true, true, true, true, true, true, true, false, false, false, false, false, false, false, false, false, false, false, false, false, false, false, false, false, false, false, false, false, false] rfl rfl (by kernel_rfl) (fun _ _ _ h => h) (Or.inl ⟨by rfl, ?_⟩) hHeld ?_
        rotate_left
        · intro w' hSw; (try dsimp only at hSw); (obtain ⟨k1, k2, k3, k4, k5, k6⟩ := hSw); go_simp; try with_reducible rfl
        simp only [Act.put, List.setIfInBounds_toArray, List.set_cons_zero, List.set_cons_succ]
        refine rgTake (i := 7) (N := some 41) (oi := { dst := some 41, op := Op.load 32 (Operand.tmp 40), type := 32, pos := "same.go:303", after := #[{ on := 6, ground := Ground.data }], guard := none }) (v := ?_) #[true, true, true, true, true, true, true, true, false, false, false, false, false, false, false, false, false, false, false, false, false, false, false, false, false, false, false, false, false] rfl rfl (by kernel_rfl) (fun _ _ _ h => h) (Or.inl ⟨by rfl, ?_⟩) hHeld ?_
        rotate_left
        · intro w' hSw; (try dsimp only at hSw); (obtain ⟨k1, k2, k3, k4, k5, k6⟩ := hSw); go_simp; try with_reducible rfl
        simp only [Act.put, List.setIfInBounds_toArray, List.set_cons_zero, List.set_cons_succ]
        refine rgTake (i := 8) (N := some 42) (oi := { dst := some 42, op := Op.move (Operand.tmp 5), type := 3, pos := "same.go:303", after := #[], guard := none }) (v := ?_) #[true, true, true, true, true, true, true, true, true, false, false, false, false, false, false, false, false, false, false, false, false, false, false, false, false, false, false, false, false] rfl rfl (by kernel_rfl) (fun _ _ _ h => h) (Or.inl ⟨by rfl, ?_⟩) hHeld ?_
        rotate_left
        · intro w' hSw; (try dsimp only at hSw); (obtain ⟨k1, k2, k3, k4, k5, k6⟩ := hSw); go_simp; try with_reducible rfl
        simp only [Act.put, List.setIfInBounds_toArray, List.set_cons_zero, List.set_cons_succ]
        refine rgTake (i := 9) (N := some 43) (oi := { dst := some 43, op := Op.indexAddr 32 (Operand.tmp 41) (Operand.tmp 42), type := 0, pos := "same.go:303", after := #[{ on := 7, ground := Ground.data }, { on := 8, ground := Ground.data }], guard := none }) (v := _) #[true, true, true, true, true, true, true, true, true, true, false, false, false, false, false, false, false, false, false, false, false, false, false, false, false, false, false, false, false] rfl rfl (by kernel_rfl) (fun _ _ _ h => h) (yieldsIdx (by rfl) 32 _ _ rfl 40 2 Tryd.underlying32 sizeSeg b2 o2 xs.length c2 k rfl rfl hlt2) hHeld ?_
        simp only [Act.put, List.setIfInBounds_toArray, List.set_cons_zero, List.set_cons_succ]
        refine rgTake (i := 10) (N := some 44) (oi := { dst := some 44, op := Op.fieldAddr 40 (Operand.tmp 43) 0, type := 0, pos := "same.go:303", after := #[{ on := 9, ground := Ground.data }], guard := none }) (v := ?_) #[true, true, true, true, true, true, true, true, true, true, true, false, false, false, false, false, false, false, false, false, false, false, false, false, false, false, false, false, false] rfl rfl (by kernel_rfl) (fun _ _ _ h => h) (Or.inl ⟨by rfl, ?_⟩) hHeld ?_
        rotate_left
        · intro w' hSw; (try dsimp only at hSw); (obtain ⟨k1, k2, k3, k4, k5, k6⟩ := hSw); go_simp; try with_reducible rfl
        simp only [Act.put, List.setIfInBounds_toArray, List.set_cons_zero, List.set_cons_succ]
        refine rgTake (i := 11) (N := some 45) (oi := { dst := some 45, op := Op.load 25 (Operand.tmp 44), type := 25, pos := "same.go:303", after := #[{ on := 10, ground := Ground.data }], guard := none }) (v := ?_) #[true, true, true, true, true, true, true, true, true, true, true, true, false, false, false, false, false, false, false, false, false, false, false, false, false, false, false, false, false] rfl rfl (by kernel_rfl) (fun _ _ _ h => h) (Or.inl ⟨by rfl, ?_⟩) hHeld ?_
        rotate_left
        · intro w' hSw; (try dsimp only at hSw); (obtain ⟨k1, k2, k3, k4, k5, k6⟩ := hSw); go_simp; try with_reducible rfl
        simp only [Act.put, List.setIfInBounds_toArray, List.set_cons_zero, List.set_cons_succ]
        refine rgTake (i := 12) (N := some 46) (oi := { dst := some 46, op := Op.binOp BinOp.neq 25 (Operand.tmp 39) (Operand.tmp 45) 25, type := 4, pos := "same.go:303", after := #[{ on := 5, ground := Ground.data }, { on := 11, ground := Ground.data }], guard := none }) (v := ?_) #[true, true, true, true, true, true, true, true, true, true, true, true, true, false, false, false, false, false, false, false, false, false, false, false, false, false, false, false, false] rfl rfl (by kernel_rfl) (fun _ _ _ h => h) (Or.inl ⟨by rfl, ?_⟩) hHeld ?_
        rotate_left
        · intro w' hSw; (try dsimp only at hSw); (obtain ⟨k1, k2, k3, k4, k5, k6⟩ := hSw); go_simp; try with_reducible rfl
        simp only [Act.put, List.setIfInBounds_toArray, List.set_cons_zero, List.set_cons_succ]
        refine rgTake (i := 13) (N := some 47) (oi := { dst := some 47, op := Op.move (Operand.tmp 46), type := 4, pos := "same.go:303", after := #[{ on := 12, ground := Ground.data }], guard := none }) (v := ?_) #[true, true, true, true, true, true, true, true, true, true, true, true, true, true, false, false, false, false, false, false, false, false, false, false, false, false, false, false, false] rfl rfl (by kernel_rfl) (fun _ _ _ h => h) (Or.inl ⟨by rfl, ?_⟩) hHeld ?_
        rotate_left
        · intro w' hSw; (try dsimp only at hSw); (obtain ⟨k1, k2, k3, k4, k5, k6⟩ := hSw); go_simp; try with_reducible rfl
        simp only [Act.put, List.setIfInBounds_toArray, List.set_cons_zero, List.set_cons_succ]
        refine rgTake (i := 14) (N := some 48) (oi := { dst := some 48, op := Op.fieldAddr 34 (Operand.tmp 2) 1, type := 0, pos := "same.go:303", after := #[{ on := 13, ground := Ground.guard }], guard := some (13, false) }) (v := ?_) #[true, true, true, true, true, true, true, true, true, true, true, true, true, true, true, false, false, false, false, false, false, false, false, false, false, false, false, false, false] rfl rfl (by kernel_rfl) (fun _ _ _ h => h) (Or.inl ⟨by rfl, ?_⟩) hHeld ?_
        rotate_left
        · intro w' hSw; (try dsimp only at hSw); (obtain ⟨k1, k2, k3, k4, k5, k6⟩ := hSw); go_simp; try with_reducible rfl
        simp only [Act.put, List.setIfInBounds_toArray, List.set_cons_zero, List.set_cons_succ]
        refine rgTake (i := 15) (N := some 49) (oi := { dst := some 49, op := Op.load 32 (Operand.tmp 48), type := 32, pos := "same.go:303", after := #[{ on := 14, ground := Ground.data }, { on := 13, ground := Ground.guard }], guard := some (13, false) }) (v := ?_) #[true, true, true, true, true, true, true, true, true, true, true, true, true, true, true, true, false, false, false, false, false, false, false, false, false, false, false, false, false] rfl rfl (by kernel_rfl) (fun _ _ _ h => h) (Or.inl ⟨by rfl, ?_⟩) hHeld ?_
        rotate_left
        · intro w' hSw; (try dsimp only at hSw); (obtain ⟨k1, k2, k3, k4, k5, k6⟩ := hSw); go_simp; try with_reducible rfl
        simp only [Act.put, List.setIfInBounds_toArray, List.set_cons_zero, List.set_cons_succ]
        refine rgTake (i := 16) (N := some 50) (oi := { dst := some 50, op := Op.move (Operand.tmp 5), type := 3, pos := "same.go:303", after := #[{ on := 13, ground := Ground.guard }], guard := some (13, false) }) (v := ?_) #[true, true, true, true, true, true, true, true, true, true, true, true, true, true, true, true, true, false, false, false, false, false, false, false, false, false, false, false, false] rfl rfl (by kernel_rfl) (fun _ _ _ h => h) (Or.inl ⟨by rfl, ?_⟩) hHeld ?_
        rotate_left
        · intro w' hSw; (try dsimp only at hSw); (obtain ⟨k1, k2, k3, k4, k5, k6⟩ := hSw); go_simp; try with_reducible rfl
        simp only [Act.put, List.setIfInBounds_toArray, List.set_cons_zero, List.set_cons_succ]
        refine rgTake (i := 17) (N := some 51) (oi := { dst := some 51, op := Op.indexAddr 32 (Operand.tmp 49) (Operand.tmp 50), type := 0, pos := "same.go:303", after := #[{ on := 15, ground := Ground.data }, { on := 16, ground := Ground.data }, { on := 13, ground := Ground.guard }], guard := some (13, false) }) (v := _) #[true, true, true, true, true, true, true, true, true, true, true, true, true, true, true, true, true, true, false, false, false, false, false, false, false, false, false, false, false] rfl rfl (by kernel_rfl) (fun _ _ _ h => h) (yieldsIdx (by rfl) 32 _ _ rfl 40 2 Tryd.underlying32 sizeSeg b1 o1 xs.length c1 k rfl rfl hlt) hHeld ?_
        simp only [Act.put, List.setIfInBounds_toArray, List.set_cons_zero, List.set_cons_succ]
        refine rgTake (i := 18) (N := some 52) (oi := { dst := some 52, op := Op.fieldAddr 40 (Operand.tmp 51) 1, type := 0, pos := "same.go:303", after := #[{ on := 17, ground := Ground.data }, { on := 13, ground := Ground.guard }], guard := some (13, false) }) (v := ?_) #[true, true, true, true, true, true, true, true, true, true, true, true, true, true, true, true, true, true, true, false, false, false, false, false, false, false, false, false, false] rfl rfl (by kernel_rfl) (fun _ _ _ h => h) (Or.inl ⟨by rfl, ?_⟩) hHeld ?_
        rotate_left
        · intro w' hSw; (try dsimp only at hSw); (obtain ⟨k1, k2, k3, k4, k5, k6⟩ := hSw); go_simp; try with_reducible rfl
        simp only [Act.put, List.setIfInBounds_toArray, List.set_cons_zero, List.set_cons_succ]
        refine rgTake (i := 19) (N := some 53) (oi := { dst := some 53, op := Op.load 38 (Operand.tmp 52), type := 38, pos := "same.go:303", after := #[{ on := 18, ground := Ground.data }, { on := 13, ground := Ground.guard }], guard := some (13, false) }) (v := ?_) #[true, true, true, true, true, true, true, true, true, true, true, true, true, true, true, true, true, true, true, true, false, false, false, false, false, false, false, false, false] rfl rfl (by kernel_rfl) (fun _ _ _ h => h) (Or.inl ⟨by rfl, ?_⟩) hHeld ?_
        rotate_left
        · intro w' hSw; (try dsimp only at hSw); (obtain ⟨k1, k2, k3, k4, k5, k6⟩ := hSw); go_simp; try with_reducible rfl
        simp only [Act.put, List.setIfInBounds_toArray, List.set_cons_zero, List.set_cons_succ]
        refine rgTake (i := 20) (N := some 54) (oi := { dst := some 54, op := Op.fieldAddr 34 (Operand.tmp 3) 1, type := 0, pos := "same.go:303", after := #[{ on := 13, ground := Ground.guard }], guard := some (13, false) }) (v := ?_) #[true, true, true, true, true, true, true, true, true, true, true, true, true, true, true, true, true, true, true, true, true, false, false, false, false, false, false, false, false] rfl rfl (by kernel_rfl) (fun _ _ _ h => h) (Or.inl ⟨by rfl, ?_⟩) hHeld ?_
        rotate_left
        · intro w' hSw; (try dsimp only at hSw); (obtain ⟨k1, k2, k3, k4, k5, k6⟩ := hSw); go_simp; try with_reducible rfl
        simp only [Act.put, List.setIfInBounds_toArray, List.set_cons_zero, List.set_cons_succ]
        refine rgTake (i := 21) (N := some 55) (oi := { dst := some 55, op := Op.load 32 (Operand.tmp 54), type := 32, pos := "same.go:303", after := #[{ on := 20, ground := Ground.data }, { on := 13, ground := Ground.guard }], guard := some (13, false) }) (v := ?_) #[true, true, true, true, true, true, true, true, true, true, true, true, true, true, true, true, true, true, true, true, true, true, false, false, false, false, false, false, false] rfl rfl (by kernel_rfl) (fun _ _ _ h => h) (Or.inl ⟨by rfl, ?_⟩) hHeld ?_
        rotate_left
        · intro w' hSw; (try dsimp only at hSw); (obtain ⟨k1, k2, k3, k4, k5, k6⟩ := hSw); go_simp; try with_reducible rfl
        simp only [Act.put, List.setIfInBounds_toArray, List.set_cons_zero, List.set_cons_succ]
        refine rgTake (i := 22) (N := some 56) (oi := { dst := some 56, op := Op.move (Operand.tmp 5), type := 3, pos := "same.go:303", after := #[{ on := 13, ground := Ground.guard }], guard := some (13, false) }) (v := ?_) #[true, true, true, true, true, true, true, true, true, true, true, true, true, true, true, true, true, true, true, true, true, true, true, false, false, false, false, false, false] rfl rfl (by kernel_rfl) (fun _ _ _ h => h) (Or.inl ⟨by rfl, ?_⟩) hHeld ?_
        rotate_left
        · intro w' hSw; (try dsimp only at hSw); (obtain ⟨k1, k2, k3, k4, k5, k6⟩ := hSw); go_simp; try with_reducible rfl
        simp only [Act.put, List.setIfInBounds_toArray, List.set_cons_zero, List.set_cons_succ]
        refine rgTake (i := 23) (N := some 57) (oi := { dst := some 57, op := Op.indexAddr 32 (Operand.tmp 55) (Operand.tmp 56), type := 0, pos := "same.go:303", after := #[{ on := 21, ground := Ground.data }, { on := 22, ground := Ground.data }, { on := 13, ground := Ground.guard }], guard := some (13, false) }) (v := _) #[true, true, true, true, true, true, true, true, true, true, true, true, true, true, true, true, true, true, true, true, true, true, true, true, false, false, false, false, false] rfl rfl (by kernel_rfl) (fun _ _ _ h => h) (yieldsIdx (by rfl) 32 _ _ rfl 40 2 Tryd.underlying32 sizeSeg b2 o2 xs.length c2 k rfl rfl hlt2) hHeld ?_
        simp only [Act.put, List.setIfInBounds_toArray, List.set_cons_zero, List.set_cons_succ]
        refine rgTake (i := 24) (N := some 58) (oi := { dst := some 58, op := Op.fieldAddr 40 (Operand.tmp 57) 1, type := 0, pos := "same.go:303", after := #[{ on := 23, ground := Ground.data }, { on := 13, ground := Ground.guard }], guard := some (13, false) }) (v := ?_) #[true, true, true, true, true, true, true, true, true, true, true, true, true, true, true, true, true, true, true, true, true, true, true, true, true, false, false, false, false] rfl rfl (by kernel_rfl) (fun _ _ _ h => h) (Or.inl ⟨by rfl, ?_⟩) hHeld ?_
        rotate_left
        · intro w' hSw; (try dsimp only at hSw); (obtain ⟨k1, k2, k3, k4, k5, k6⟩ := hSw); go_simp; try with_reducible rfl
        simp only [Act.put, List.setIfInBounds_toArray, List.set_cons_zero, List.set_cons_succ]
        refine rgTake (i := 25) (N := some 59) (oi := { dst := some 59, op := Op.load 38 (Operand.tmp 58), type := 38, pos := "same.go:303", after := #[{ on := 24, ground := Ground.data }, { on := 13, ground := Ground.guard }], guard := some (13, false) }) (v := ?_) #[true, true, true, true, true, true, true, true, true, true, true, true, true, true, true, true, true, true, true, true, true, true, true, true, true, true, false, false, false] rfl rfl (by kernel_rfl) (fun _ _ _ h => h) (Or.inl ⟨by rfl, ?_⟩) hHeld ?_
        rotate_left
        · intro w' hSw; (try dsimp only at hSw); (obtain ⟨k1, k2, k3, k4, k5, k6⟩ := hSw); go_simp; try with_reducible rfl
        simp only [Act.put, List.setIfInBounds_toArray, List.set_cons_zero, List.set_cons_succ]
        refine rgCall (i := 26) (N := some 60) (oi := { dst := some 60, op := Op.call { callee := Callee.value (Operand.func 28), args := #[Operand.tmp 53, Operand.tmp 59], argTypes := #[38, 38] }, type := 4, pos := "same.go:303", after := #[{ on := 19, ground := Ground.data }, { on := 25, ground := Ground.data }, { on := 13, ground := Ground.chain }, { on := 13, ground := Ground.guard }], guard := some (13, false) }) #[true, true, true, true, true, true, true, true, true, true, true, true, true, true, true, true, true, true, true, true, true, true, true, true, true, true, true, false, false] rfl rfl (by kernel_rfl) (fun K hK => ?_)
        go_simp
        (go_at_call 28; refine (bytesS_any x.D y.D x.c y.c x.d y.d _ HRX.out HRY.out mx my).mono ?_; rw [HBD.out]; rintro e w3 ⟨rfl, hb⟩; replace HX := Lib.hid (HX.out.below hb); replace HY := Lib.hid (HY.out.below hb); replace HB := keepB HB hb; replace HI := keepA HI hb; replace HJ := keepA HJ hb; replace HS : Hid ((fun w' => w'.cell? ⟨gI, 1, none⟩ = some (.slice (some ⟨b1, o1, none⟩) xs.length c1) ∧ w'.cell? ⟨gJ, 1, none⟩ = some (.slice (some ⟨b2, o2, none⟩) xs.length c2) ∧ w'.cell? ⟨b1, o1 + k * 2, none⟩ = some (.int .u32 x.at_) ∧ w'.cell? ⟨b1, o1 + k * 2 + 1, none⟩ = some (.slice x.D x.d.length x.c) ∧ w'.cell? ⟨b2, o2 + k * 2, none⟩ = some (.int .u32 y.at_) ∧ w'.cell? ⟨b2, o2 + k * 2 + 1, none⟩ = some (.slice y.D y.d.length y.c)) w3) := Lib.hid ⟨cell_below HS.out.1 hb, cell_below HS.out.2.1 hb, cell_below HS.out.2.2.1 hb, cell_below HS.out.2.2.2.1 hb, cell_below HS.out.2.2.2.2.1 hb, cell_below HS.out.2.2.2.2.2 hb⟩; clear hb HRX HRY)
        refine hK.out _ _ HS.out (fun hHeld => ?_)
        (try simp only [Act.put, List.setIfInBounds_toArray, List.set_cons_zero, List.set_cons_succ])
        clear hK K
        refine rgTake (i := 27) (N := some 61) (oi := { dst := some 61, op := Op.unOp UnOp.not 4 (Operand.tmp 60), type := 4, pos := "same.go:303", after := #[{ on := 26, ground := Ground.data }, { on := 13, ground := Ground.guard }], guard := some (13, false) }) (v := ?_) #[true, true, true, true, true, true, true, true, true, true, true, true, true, true, true, true, true, true, true, true, true, true, true, true, true, true, true, true, false] rfl rfl (by kernel_rfl) (fun _ _ _ h => h) (Or.inl ⟨by rfl, ?_⟩) hHeld ?_
        rotate_left
        · intro w' hSw; (try dsimp only at hSw); (obtain ⟨k1, k2, k3, k4, k5, k6⟩ := hSw); go_simp; try with_reducible rfl
        simp only [Act.put, List.setIfInBounds_toArray, List.set_cons_zero, List.set_cons_succ]
        refine rgTake (i := 28) (N := some 62) (oi := { dst := some 62, op := Op.pick (Operand.tmp 47) (Operand.const (Value.bool true)) (Operand.tmp 61), type := 4, pos := "same.go:303", after := #[{ on := 13, ground := Ground.data }, { on := 27, ground := Ground.data }], guard := none }) (v := ?_) #[true, true, true, true, true, true, true, true, true, true, true, true, true, true, true, true, true, true, true, true, true, true, true, true, true, true, true, true, true] rfl rfl (by kernel_rfl) (fun _ _ _ h => h) (Or.inl ⟨by rfl, ?_⟩) hHeld ?_
        rotate_left
        · intro w' hSw; (try dsimp only at hSw); (obtain ⟨k1, k2, k3, k4, k5, k6⟩ := hSw); go_simp; try with_reducible rfl
        simp only [Act.put, List.setIfInBounds_toArray, List.set_cons_zero, List.set_cons_succ]
        refine rgDone (by kernel_rfl) ?_ _
        cases bd with
        | true =>
          have HR : Hid (decide ((xs.drop (k + 1)).map SegM.v = (ys.drop (k + 1)).map SegM.v) = R) := Lib.hid (by rw [← HRR.out]; exact decide_eq_decide.2 ⟨fun h => by rw [HEX.out.2 ⟨HQA.out, of_decide_eq_true HBD.out⟩, h], fun h => (List.cons.inj h).2⟩)
          clear HRR HEX HQA HBD
          go_wp2
          go_roundw
          case rel => exact ⟨k + 1, by omega, by first | trivial | go_num, HR, HX, HY, HI, HJ, HB⟩
          case measure => simp [intOf]; omega
        | false =>
          have hr' : R = false := by rw [← HRR.out]; exact decide_eq_false (fun h => absurd ((HEX.out.1 (List.cons.inj h).1).2) (of_decide_eq_false HBD.out))
          subst hr'
          go_wp2
          go_ret
          exact ⟨rfl, HB.out.1⟩
      · have hr' : R = false := by rw [← hr]; exact decide_eq_false (fun h => qa (ex.1 (List.cons.inj h).1).1)
        subst hr'
        have hne : ((x.at_ : Int) != (y.at_ : Int)) = true := bne_iff_ne.2 (by omega)
        obtain ⟨_, _, k3, k4, k5, k6⟩ := HS.out
        clear hr ex HS
        go_wp2
        go_region
        replace HB := keepB1 HB
        go_wp2
        go_ret
        exact ⟨rfl, HB.out.1⟩
    · obtain rfl : k = xs.length := by omega
      have hr := HR.out
      have hr' : R = true := by rw [← hr]; exact decide_eq_true (by rw [List.drop_eq_nil_of_le (Nat.le_refl _), List.drop_eq_nil_of_le (by rw [HN.out]; omega)])
      subst hr'
      clear hr HR
      go_wp2
      go_ret
      exact ⟨rfl, HB.out.1⟩
end Go.Proofs.YtaclidjhgpkmpaaDoor.My
set_option linter.unusedSimpArgs false
set_option linter.unusedVariables false
namespace Go.Proofs.YtaclidjhgpkmpaaDoor.My
open Go.RowKit
def fewR : List SegV → Bool
  | [] => true
  | s :: r => if 200 < s.d.length then false else fewR r
def fewV (S : List SegV) : Bool := if 20 < S.length then false else fewR S
theorem fewR_cons (m : SegM) (r : List SegV) : fewR (m.v :: r) = if 200 < m.d.length then false else fewR r := rfl
theorem fewR_all : ∀ {S : List SegV}, fewR S = true → ∀ s ∈ S, s.d.length ≤ 200
  | [], _, _, h => by cases h
  | s :: r, h, t, ht => by
    rw [fewR] at h
    by_cases q : 200 < s.d.length
    · rw [if_pos q] at h; cases h
    · rw [if_neg q] at h
      rcases List.mem_cons.1 ht with rfl | k
      · omega
      · exact fewR_all h t k
theorem few_all {S : List SegV} (h : fewV S = true) : S.length ≤ 20 ∧ ∀ s ∈ S, s.d.length ≤ 200 := by
  unfold fewV at h
  split at h
  · cases h
  · exact ⟨by omega, fewR_all h⟩
set_option maxRecDepth 100000 in
set_option maxHeartbeats 1000000 in
theorem few_any (st c : Nat) (S : Option Addr) (ms : List SegM) (w : World) (hx : RdSgG w S ms) (hm : ms.length ≤ 9223372036854775807) : Calls Tryd.prog 10 #[.agg (imA st S ms.length c)] w fun e w' => e = .returned (.bool (fewV (ms.map SegM.v))) ∧ Below w.heap.size w w' := by
  have HB := startB w
  have HX := Lib.hid hx
  clear hx
  obtain ⟨R, hR⟩ : ∃ R, fewV (ms.map SegM.v) = R := ⟨_, rfl⟩
  rw [hR]
  have HR := Lib.hid hR
  clear hR
  go_enter Tryd.func10, Tryd.ntmps10
  by_cases h70 : 20 < ms.length
  · have hR' : R = false := by rw [← HR.out]; unfold fewV; rw [if_pos (by simpa using h70)]
    subst hR'
    clear HR
    go_wp2_with (refine wlBox ?_ 34 _ rfl (imA st S ms.length c) rfl ?_; exact rfl; intro gI w1 hg hl ha hb; replace HX := Lib.hid (HX.out.below hb); replace HB := keepB HB hb; have HI := Lib.hid ha; have i1 : w1.cell? ⟨gI, 1, none⟩ = some (.slice S ms.length c) := cellA HI 1; clear ha hb hg hl)
    go_ret
    exact ⟨rfl, HB.out.1⟩
  · have HR2 : Hid (fewR ((ms.drop 0).map SegM.v) = R) := Lib.hid (by have := HR.out; unfold fewV at this; rwa [if_neg (by simpa using h70)] at this)
    clear HR
    go_wp2_with (refine wlBox ?_ 34 _ rfl (imA st S ms.length c) rfl ?_; exact rfl; intro gI w1 hg hl ha hb; replace HX := Lib.hid (HX.out.below hb); replace HB := keepB HB hb; have HI := Lib.hid ha; have i1 : w1.cell? ⟨gI, 1, none⟩ = some (.slice S ms.length c) := cellA HI 1; clear ha hb hg hl)
    go_loopw [3] (fun i wr => ∃ (k : Nat), k ≤ ms.length ∧ i = .int .i64 k ∧ wr = w1 ∧ Hid (fewR ((ms.drop k).map SegM.v) = R)) (fun i _ => ms.length - (intOf i).toNat)
    case atStart => exact ⟨0, Nat.zero_le _, by first | trivial | rfl, by first | trivial | rfl, HR2⟩
    case round =>
      clear HR2
      obtain ⟨k, hk, rfl, rfl, HR⟩ := hrel
      by_cases hlt : k < ms.length
      · obtain ⟨mm, hmm⟩ : ∃ m, ms[k]? = some m := ⟨_, List.getElem?_eq_getElem hlt⟩
        obtain ⟨b, off, rfl, _, hcc⟩ := HX.out.1.2.2 (by omega)
        obtain ⟨_, g2, _, _⟩ := HX.out.2 mm (List.mem_of_getElem? hmm)
        have f1 : wr.cell? ⟨b, off + k * 2 + 1, none⟩ = some (.slice mm.D mm.d.length mm.c) := hcc k (sA mm) (sA_get hmm) 1 _ rfl
        have hr := HR.out
        rw [drop_cons hmm, List.map_cons, fewR_cons] at hr
        have hmx : mm.d.length ≤ 9223372036854775807 := g2
        clear hcc HR hmm g2
        obtain ⟨D0, hD0⟩ : ∃ D0, mm.D = D0 := ⟨_, rfl⟩
        obtain ⟨n0, hn0⟩ : ∃ n0, mm.d.length = n0 := ⟨_, rfl⟩
        obtain ⟨c0, hc0⟩ : ∃ c0, mm.c = c0 := ⟨_, rfl⟩
        rw [hD0, hn0, hc0] at f1
        rw [hn0] at hr hmx
        clear hD0 hn0 hc0
        by_cases q : 200 < n0
        · rw [if_pos q] at hr
          subst hr
          go_wp2_with (refine wlIdx ?_ 32 _ _ rfl 40 2 Tryd.underlying32 sizeSeg b off ms.length c k rfl rfl hlt ?_; exact rfl)
          go_ret
          exact ⟨rfl, HB.out.1⟩
        · rw [if_neg q] at hr
          have HR := Lib.hid hr
          clear hr
          go_wp2_with (refine wlIdx ?_ 32 _ _ rfl 40 2 Tryd.underlying32 sizeSeg b off ms.length c k rfl rfl hlt ?_; exact rfl)
          go_roundw
          case rel => exact ⟨k + 1, by omega, by first | trivial | go_num, by first | trivial | rfl, HR⟩
          case measure => simp [intOf]; omega
      · obtain rfl : k = ms.length := by omega
        have hr := HR.out
        rw [List.drop_eq_nil_of_le (Nat.le_refl _), List.map_nil, fewR] at hr
        subst hr
        clear HR
        go_wp2
        go_ret
        exact ⟨rfl, HB.out.1⟩
end Go.Proofs.YtaclidjhgpkmpaaDoor.My
set_option linter.unusedSimpArgs false
set_option linter.unusedVariables false
namespace Go.Proofs.YtaclidjhgpkmpaaDoor.My
open Go.RowKit
theorem zeroSeg (w : World) : (zeroValue 40).run Tryd.prog w = .ok (.agg #[.int .u32 0, .slice none 0 0]) w := by kernel_rfl
theorem fit_step {e : Option Nat} {s : SegV} {r : List SegV} {P : Prop} (h : FitB e (s :: r) → P) (h1 : s.d ≠ []) (h2 : ∀ x, e = some x → x < s.at_) (h3 : s.at_ + s.d.length ≤ 16384) : FitB (some (s.at_ + s.d.length)) r → P := fun h4 => h ⟨h1, h2, h3, h4⟩
/-- What of the text is behind a segment's number. -/
def restB (d : List UInt8) (r : List SegV) : List UInt8 := (d.map fun b => 32 :: hexW b).flatten ++ [10] ++ joinN (linesB r)
theorem joinN_seg (s : SegV) (r : List SegV) : joinN (linesB (s :: r)) = wOrg ++ [32] ++ decL (s.at_ : Int) ++ [10] ++ wByte ++ restB s.d r := by
  show joinN (orgL s.at_ :: byteL s.d :: linesB r) = _
  rw [joinN_cons, joinN_cons]
  unfold orgL byteL restB
  simp
theorem restB_cons (b : UInt8) (t : List UInt8) (r : List SegV) : restB (b :: t) r = [32] ++ hexW b ++ restB t r := by simp [restB]
def o2 (k x : Nat) : Option Nat := if k = 0 then none else some x
theorem linesB_mem : ∀ (S : List SegV) (x : List UInt8), x ∈ linesB S → ∃ s ∈ S, x = orgL s.at_ ∨ x = byteL s.d
  | [], _, h => by cases h
  | s :: r, x, h => by
    rcases List.mem_cons.1 h with h | h
    · exact ⟨s, by simp, .inl h⟩
    rcases List.mem_cons.1 h with h | h
    · exact ⟨s, by simp, .inr h⟩
    · obtain ⟨t, h1, h2⟩ := linesB_mem r x h
      exact ⟨t, by simp [h1], h2⟩
theorem linesB_len : ∀ S : List SegV, (linesB S).length = 2 * S.length
  | [] => rfl
  | s :: r => by
    show (linesB r).length + 1 + 1 = _
    rw [linesB_len r, List.length_cons]
    omega
theorem FitB.at_ : ∀ {S : List SegV} {o : Option Nat}, FitB o S → ∀ s ∈ S, s.at_ ≤ 16384
  | [], _, _, _, h => by cases h
  | s :: r, o, h, t, ht => by
    obtain ⟨h1, h2, h3, h4⟩ := h
    rcases List.mem_cons.1 ht with rfl | k
    · omega
    · exact FitB.at_ h4 t k
theorem flat_hex (d : List UInt8) : ((d.map fun b => 32 :: hexW b).flatten).length = 11 * d.length := by
  induction d with
  | nil => rfl
  | cons b r ih =>
    rw [List.map_cons, List.flatten_cons, List.length_append, ih, List.length_cons, List.length_cons]
    have : (hexW b).length = 10 := by simp [hexW, hexL]
    omega
theorem linesB_ok (S : List SegV) (h : FitB none S) (hn : S.length ≤ 20) (hd : ∀ s ∈ S, s.d.length ≤ 200) (hl : (joinN (linesB S)).length ≤ 60000) : ((linesV (bs (joinN (linesB S)))).2 = 0 ∧ linesP (joinN (linesB S)) = linesB S) ∧ ∀ l ∈ linesB S, l.length ≤ 10000 := by
  refine ⟨lines_join (linesB S) (fun x hx c hc => ?_) (by rw [linesB_len]; omega) (by omega), fun l hl => ?_⟩
  · left
    obtain ⟨s, hs, h1 | h1⟩ := linesB_mem S x hx
    · subst h1
      unfold orgL at hc
      rcases List.mem_append.1 hc with h2 | h2
      · have : ∀ c ∈ wOrg ++ [32], 32 ≤ c.toNat ∧ c.toNat ≤ 126 := by decide
        exact this c h2
      · rcases dec_bytes _ c h2 with h3 | h3
        · subst h3; decide
        · omega
    · subst h1
      have := byte_mem s.d c hc
      omega
  · obtain ⟨s, hs, h1 | h1⟩ := linesB_mem S l hl
    · subst h1
      unfold orgL
      have := h.at_ s hs
      have h2 := decL_len (s.at_ : Int) (by omega) (by omega)
      rw [List.length_append]
      show 5 + _ ≤ _
      omega
    · subst h1
      unfold byteL
      have := hd s hs
      rw [List.length_append, flat_hex]
      show 5 + _ ≤ _
      omega
theorem segs_rdg {w : World} {B n c : Nat} {S : Option Addr} {ms : List SegM} (h : SegsAt w B (.slice S n c) ms) : RdSgG w S ms := by
  obtain ⟨A, c', e, hr⟩ := h.rd
  injection e with e1 _ _
  subst e1
  exact ⟨hr.1, fun m hm => ⟨(hr.2 m hm).1, by have := (hr.2 m hm).2.1; unfold maxLen; omega, (hr.2 m hm).2.2.1, (hr.2 m hm).2.2.2⟩⟩
set_option maxRecDepth 100000 in
set_option maxHeartbeats 8000000 in
theorem asmBytes_any (st c : Nat) (S : Option Addr) (ms : List SegM) (m : Int) (w : World) (hS : St m w) (hst : st < 4294967296) (hx : RdSgG w S ms) (hm : ms.length ≤ 9223372036854775807) (hc : ms.length ≤ c) :
    Calls Tryd.prog 4 #[.agg (imA st S ms.length c)] w fun e w' => e = .returned (.bool true) ∧ Below w.heap.size w w' := by
  have HB := startB w
  have HS := Lib.hid hS
  have HX := Lib.hid hx
  have HFW : Hid (∀ w', RdSgG w' S ms → Calls Tryd.prog 10 #[.agg (imA st S ms.length c)] w' fun e w'' => e = .returned (.bool (fewV (ms.map SegM.v))) ∧ Below w'.heap.size w' w'') := Lib.hid (fun w' h => few_any st c S ms w' h (by omega))
  obtain ⟨F, hF⟩ : ∃ F, fewV (ms.map SegM.v) = F := ⟨_, rfl⟩
  rw [hF] at HFW
  have HF := Lib.hid hF
  obtain ⟨n, hn⟩ : ∃ n, ms.length = n := ⟨_, rfl⟩
  have HN := Lib.hid hn
  rw [hn] at HFW hm hc ⊢
  clear hS hx hF hn
  cases F with
  | false =>
    go_enter Tryd.func4, Tryd.ntmps4
    go_wp2_with (first | (refine wlBox (by rfl) 34 _ rfl (imA st S n c) rfl ?_; intro gI w1 hg hl ha hb; have HGI := Lib.hid hg; replace HB := keepB HB hb; have HI := Lib.hid ha; have i1 : w1.cell? ⟨gI, 1, none⟩ = some (.slice S n c) := cellA HI 1; clear ha hb hg hl) | (refine rowLoad (by rfl) 34 _ rfl gI rfl (cs := imA st S n c) HI.out Tryd.underlying34 rfl infoIm ?_) | (go_at_call 10; refine (HFW.out _ (HX.out.below HB.out.1)).mono ?_; rintro e w2 ⟨rfl, hb⟩; replace HB := keepB HB hb; replace HI := keepA HI hb; have i1 : w2.cell? ⟨gI, 1, none⟩ = some (.slice S n c) := cellA HI 1; clear hb) | (go_at_call 6; refine (awake_any m _ (St.below HS HB)).mono ?_; rintro e wz ⟨rfl, hb⟩; replace HB := keepB HB hb; clear hb))
    (go_ret; exact ⟨rfl, HB.out.1⟩)
  | true =>
    obtain ⟨hn20, hd20⟩ := few_all HF.out
    rw [List.length_map, HN.out] at hn20
    obtain ⟨SRC, hSRC⟩ : ∃ SRC, joinN (linesB (ms.map SegM.v)) = SRC := ⟨_, rfl⟩
    have HSRC0 : Hid ([] ++ joinN (linesB ((ms.drop 0).map SegM.v)) = SRC) := Lib.hid hSRC
    have HFIT0 : Hid (FitB (o2 0 0) ((ms.drop 0).map SegM.v) → FitB none (ms.map SegM.v)) := Lib.hid (fun h => h)
    have HSRC := Lib.hid hSRC
    have HD := Lib.hid hd20
    clear hSRC hd20
    go_enter Tryd.func4, Tryd.ntmps4
    go_wp2_with (first | (refine wlBox (by rfl) 34 _ rfl (imA st S n c) rfl ?_; intro gI w1 hg hl ha hb; have HGI := Lib.hid hg; replace HB := keepB HB hb; have HI := Lib.hid ha; have i1 : w1.cell? ⟨gI, 1, none⟩ = some (.slice S n c) := cellA HI 1; clear ha hb hg hl) | (refine rowLoad (by rfl) 34 _ rfl gI rfl (cs := imA st S n c) HI.out Tryd.underlying34 rfl infoIm ?_) | (go_at_call 10; refine (HFW.out _ (HX.out.below HB.out.1)).mono ?_; rintro e w2 ⟨rfl, hb⟩; replace HB := keepB HB hb; replace HI := keepA HI hb; have i1 : w2.cell? ⟨gI, 1, none⟩ = some (.slice S n c) := cellA HI 1; clear hb))
    go_loopg [3, 4, 5] n (fun gk s x i wr => ∃ (k e : Nat) (src : List UInt8), s = .string (bs src) ∧ x = .int .u32 (e : Nat) ∧ i = .int .i64 (k : Nat) ∧ k + gk = n ∧ e ≤ 16384 ∧ src.length ≤ 3000 * k ∧ Hid (src ++ joinN (linesB ((ms.drop k).map SegM.v)) = SRC) ∧ Hid (FitB (o2 k e) ((ms.drop k).map SegM.v) → FitB none (ms.map SegM.v)) ∧ Hid (wr.heap[gI]? = some (.cells (imA st S n c) 34 (0, 0))) ∧ Hid (Below w.heap.size w wr ∧ w.heap.size ≤ wr.heap.size))
    case atStart => exact ⟨0, 0, [], rfl, rfl, rfl, by omega, by omega, by simp, HSRC0, HFIT0, HI, HB⟩
    case round =>
      clear HSRC0 HFIT0 HI HB i1
      obtain ⟨k, e, src, rfl, rfl, rfl, hk, he, hsl, HSR, HFIT, HI, HB⟩ := hrel
      have HK := Lib.hid hk
      have i1 : wr.cell? ⟨gI, 1, none⟩ = some (.slice S n c) := cellA HI 1
      have hk20 : k ≤ 20 := by omega
      have HSL := Lib.hid hsl
      clear hk hsl
      by_cases hlt : k < n
      · obtain ⟨⟨sa, sD, sc, sd⟩, hmm⟩ : ∃ x, ms[k]? = some x := ⟨_, List.getElem?_eq_getElem (by rw [HN.out]; exact hlt)⟩
        have HXr := Lib.hid (HX.out.below HB.out.1)
        obtain ⟨b, off, rfl, -, -⟩ := HXr.out.1.2.2 (by rw [HN.out]; omega)
        have hrg := RwA.at_ HXr.out.1 (by rw [HN.out]; omega) (sA_get hmm)
        obtain ⟨g1, g2, g3, g4⟩ := HX.out.2 _ (List.mem_of_getElem? hmm)
        have hdl : sd.length ≤ 200 := HD.out ⟨sa, sd⟩ (List.mem_map.2 ⟨_, List.mem_of_getElem? hmm, rfl⟩)
        obtain ⟨rest, hrest⟩ : ∃ rest, (ms.drop (k + 1)).map SegM.v = rest := ⟨_, rfl⟩
        have hdr : (ms.drop k).map SegM.v = ⟨sa, sd⟩ :: rest := by rw [drop_cons hmm, List.map_cons, hrest]; rfl
        have hsr := HSR.out
        have hfit := HFIT.out
        rw [hdr] at hsr hfit
        rw [joinN_seg] at hsr
        obtain ⟨sn, hsn⟩ : ∃ sn, sd.length = sn := ⟨_, rfl⟩
        simp only at g1 g2 g3 g4
        rw [hsn] at g2 g3 g4 hdl
        have hrg2 : wr.rangeAt b (off + k * 2) (#[.int .u32 (sa : Nat), .slice sD sn sc] : Array Value).toList := by rw [← hsn]; exact hrg
        have HRG := Lib.hid hrg2
        have HREST := Lib.hid hrest
        have HSN := Lib.hid hsn
        have HG4 := Lib.hid g4
        have HSR2 := Lib.hid hsr
        have HFIT2 := Lib.hid hfit
        clear hmm HXr hrg hrest hdr hsr hfit HSR HFIT hsn hrg2 g2 g3 g4
        by_cases z : sn = 0
        · have z1 : ((sn : Int) == 0) = true := beq_iff_eq.2 (by omega)
          clear z
          go_upto_region 9 with (first | (refine wlIdx (by rfl) 32 _ _ rfl 40 2 Tryd.underlying32 sizeSeg b off n c k rfl rfl hlt ?_) | (refine partLoad (by rfl) 40 _ rfl b (off + k * 2) rfl (cs := #[.int .u32 (sa : Nat), .slice sD sn sc]) HRG.out Tryd.underlying40 rfl infoSeg ?_) | (refine wlAlloc (by rfl) 40 rfl #[.int .u32 0, .slice none 0 0] zeroSeg ?_; intro gX w5 hg hl ha hb; have HNX := Lib.hid (And.intro hb hb.size); have HGX := Lib.hid hg; have HXS := Lib.hid ha; clear ha hb hg hl) | (refine rowStore (by rfl) 40 _ _ rfl gX rfl #[.int .u32 (sa : Nat), .slice sD sn sc] rfl HXS.out infoSeg rfl (by simp [Value.oneCell']) ?_; intro w6 ha ho; replace HXS := Lib.hid ha; have hb := (keepBo HNX HGX.out ho).out.1; replace HB := keepB HB hb; replace HI := keepA HI hb; have s0 : w6.cell? ⟨gX, 0, none⟩ = some (.int .u32 (sa : Nat)) := cellA HXS 0; have s1 : w6.cell? ⟨gX, 1, none⟩ = some (.slice sD sn sc) := cellA HXS 1; clear ha ho hb HNX HGX))
          go_upto_region 10 with fail
          go_wp2_with (go_at_call 6; refine (awake_any m _ (St.below HS HB)).mono ?_; rintro e wz ⟨rfl, hb⟩; replace HB := keepB HB hb; clear hb)
          (go_ret; exact ⟨rfl, HB.out.1⟩)
        have z1 : ((sn : Int) == 0) = false := beq_eq_false_iff_ne.2 (by omega)
        by_cases y : 0 < k ∧ sa ≤ e
        · obtain ⟨y1, y2⟩ := y
          have y3 : decide ((0 : Int) < (k : Int)) = true := decide_eq_true (by omega)
          have y4 : decide ((sa : Int) ≤ (e : Int)) = true := decide_eq_true (by omega)
          have y5 : decide (0 < k) = true := decide_eq_true y1
          have y6 : decide (sa ≤ e) = true := decide_eq_true y2
          go_upto_region 9 with (first | (refine wlIdx (by rfl) 32 _ _ rfl 40 2 Tryd.underlying32 sizeSeg b off n c k rfl rfl hlt ?_) | (refine partLoad (by rfl) 40 _ rfl b (off + k * 2) rfl (cs := #[.int .u32 (sa : Nat), .slice sD sn sc]) HRG.out Tryd.underlying40 rfl infoSeg ?_) | (refine wlAlloc (by rfl) 40 rfl #[.int .u32 0, .slice none 0 0] zeroSeg ?_; intro gX w5 hg hl ha hb; have HNX := Lib.hid (And.intro hb hb.size); have HGX := Lib.hid hg; have HXS := Lib.hid ha; clear ha hb hg hl) | (refine rowStore (by rfl) 40 _ _ rfl gX rfl #[.int .u32 (sa : Nat), .slice sD sn sc] rfl HXS.out infoSeg rfl (by simp [Value.oneCell']) ?_; intro w6 ha ho; replace HXS := Lib.hid ha; have hb := (keepBo HNX HGX.out ho).out.1; replace HB := keepB HB hb; replace HI := keepA HI hb; have s0 : w6.cell? ⟨gX, 0, none⟩ = some (.int .u32 (sa : Nat)) := cellA HXS 0; have s1 : w6.cell? ⟨gX, 1, none⟩ = some (.slice sD sn sc) := cellA HXS 1; clear ha ho hb HNX HGX))
          go_upto_region 10 with fail
          go_wp2_with (go_at_call 6; refine (awake_any m _ (St.below HS HB)).mono ?_; rintro e wz ⟨rfl, hb⟩; replace HB := keepB HB hb; clear hb)
          (go_ret; exact ⟨rfl, HB.out.1⟩)
        have hor : k = 0 ∨ (0 < k ∧ ¬ sa ≤ e) := by omega
        by_cases x1 : 16384 < sa
        · have x2 : decide ((16384 : Int) < (sa : Int)) = true := decide_eq_true (by omega)
          have x3 : decide (16384 < sa) = true := decide_eq_true x1
          rcases hor with hk0 | ⟨y1, y2⟩
          · have y3 : decide ((0 : Int) < (k : Int)) = false := decide_eq_false (by omega)
            have y5 : decide (0 < k) = false := decide_eq_false (by omega)
            clear hk0
            go_upto_region 9 with (first | (refine wlIdx (by rfl) 32 _ _ rfl 40 2 Tryd.underlying32 sizeSeg b off n c k rfl rfl hlt ?_) | (refine partLoad (by rfl) 40 _ rfl b (off + k * 2) rfl (cs := #[.int .u32 (sa : Nat), .slice sD sn sc]) HRG.out Tryd.underlying40 rfl infoSeg ?_) | (refine wlAlloc (by rfl) 40 rfl #[.int .u32 0, .slice none 0 0] zeroSeg ?_; intro gX w5 hg hl ha hb; have HNX := Lib.hid (And.intro hb hb.size); have HGX := Lib.hid hg; have HXS := Lib.hid ha; clear ha hb hg hl) | (refine rowStore (by rfl) 40 _ _ rfl gX rfl #[.int .u32 (sa : Nat), .slice sD sn sc] rfl HXS.out infoSeg rfl (by simp [Value.oneCell']) ?_; intro w6 ha ho; replace HXS := Lib.hid ha; have hb := (keepBo HNX HGX.out ho).out.1; replace HB := keepB HB hb; replace HI := keepA HI hb; have s0 : w6.cell? ⟨gX, 0, none⟩ = some (.int .u32 (sa : Nat)) := cellA HXS 0; have s1 : w6.cell? ⟨gX, 1, none⟩ = some (.slice sD sn sc) := cellA HXS 1; clear ha ho hb HNX HGX))
            go_upto_region 10 with fail
            go_wp2_with (go_at_call 6; refine (awake_any m _ (St.below HS HB)).mono ?_; rintro e wz ⟨rfl, hb⟩; replace HB := keepB HB hb; clear hb)
            (go_ret; exact ⟨rfl, HB.out.1⟩)
          · have y3 : decide ((0 : Int) < (k : Int)) = true := decide_eq_true (by omega)
            have y4 : decide ((sa : Int) ≤ (e : Int)) = false := decide_eq_false (by omega)
            have y5 : decide (0 < k) = true := decide_eq_true y1
            have y6 : decide (sa ≤ e) = false := decide_eq_false y2
            go_upto_region 9 with (first | (refine wlIdx (by rfl) 32 _ _ rfl 40 2 Tryd.underlying32 sizeSeg b off n c k rfl rfl hlt ?_) | (refine partLoad (by rfl) 40 _ rfl b (off + k * 2) rfl (cs := #[.int .u32 (sa : Nat), .slice sD sn sc]) HRG.out Tryd.underlying40 rfl infoSeg ?_) | (refine wlAlloc (by rfl) 40 rfl #[.int .u32 0, .slice none 0 0] zeroSeg ?_; intro gX w5 hg hl ha hb; have HNX := Lib.hid (And.intro hb hb.size); have HGX := Lib.hid hg; have HXS := Lib.hid ha; clear ha hb hg hl) | (refine rowStore (by rfl) 40 _ _ rfl gX rfl #[.int .u32 (sa : Nat), .slice sD sn sc] rfl HXS.out infoSeg rfl (by simp [Value.oneCell']) ?_; intro w6 ha ho; replace HXS := Lib.hid ha; have hb := (keepBo HNX HGX.out ho).out.1; replace HB := keepB HB hb; replace HI := keepA HI hb; have s0 : w6.cell? ⟨gX, 0, none⟩ = some (.int .u32 (sa : Nat)) := cellA HXS 0; have s1 : w6.cell? ⟨gX, 1, none⟩ = some (.slice sD sn sc) := cellA HXS 1; clear ha ho hb HNX HGX))
            go_upto_region 10 with fail
            go_wp2_with (go_at_call 6; refine (awake_any m _ (St.below HS HB)).mono ?_; rintro e wz ⟨rfl, hb⟩; replace HB := keepB HB hb; clear hb)
            (go_ret; exact ⟨rfl, HB.out.1⟩)
        have x2 : decide ((16384 : Int) < (sa : Int)) = false := decide_eq_false (by omega)
        have x3 : decide (16384 < sa) = false := decide_eq_false x1
        by_cases v1 : 16384 < sa + sn
        · have v2 : decide ((16384 : Int) < (sa : Int) + (sn : Int)) = true := decide_eq_true (by omega)
          have v3 : decide (16384 < sa + sn) = true := decide_eq_true v1
          rcases hor with hk0 | ⟨y1, y2⟩
          · have y3 : decide ((0 : Int) < (k : Int)) = false := decide_eq_false (by omega)
            have y5 : decide (0 < k) = false := decide_eq_false (by omega)
            clear hk0
            go_upto_region 9 with (first | (refine wlIdx (by rfl) 32 _ _ rfl 40 2 Tryd.underlying32 sizeSeg b off n c k rfl rfl hlt ?_) | (refine partLoad (by rfl) 40 _ rfl b (off + k * 2) rfl (cs := #[.int .u32 (sa : Nat), .slice sD sn sc]) HRG.out Tryd.underlying40 rfl infoSeg ?_) | (refine wlAlloc (by rfl) 40 rfl #[.int .u32 0, .slice none 0 0] zeroSeg ?_; intro gX w5 hg hl ha hb; have HNX := Lib.hid (And.intro hb hb.size); have HGX := Lib.hid hg; have HXS := Lib.hid ha; clear ha hb hg hl) | (refine rowStore (by rfl) 40 _ _ rfl gX rfl #[.int .u32 (sa : Nat), .slice sD sn sc] rfl HXS.out infoSeg rfl (by simp [Value.oneCell']) ?_; intro w6 ha ho; replace HXS := Lib.hid ha; have hb := (keepBo HNX HGX.out ho).out.1; replace HB := keepB HB hb; replace HI := keepA HI hb; have s0 : w6.cell? ⟨gX, 0, none⟩ = some (.int .u32 (sa : Nat)) := cellA HXS 0; have s1 : w6.cell? ⟨gX, 1, none⟩ = some (.slice sD sn sc) := cellA HXS 1; clear ha ho hb HNX HGX))
            go_upto_region 10 with fail
            go_wp2_with (go_at_call 6; refine (awake_any m _ (St.below HS HB)).mono ?_; rintro e wz ⟨rfl, hb⟩; replace HB := keepB HB hb; clear hb)
            (go_ret; exact ⟨rfl, HB.out.1⟩)
          · have y3 : decide ((0 : Int) < (k : Int)) = true := decide_eq_true (by omega)
            have y4 : decide ((sa : Int) ≤ (e : Int)) = false := decide_eq_false (by omega)
            have y5 : decide (0 < k) = true := decide_eq_true y1
            have y6 : decide (sa ≤ e) = false := decide_eq_false y2
            go_upto_region 9 with (first | (refine wlIdx (by rfl) 32 _ _ rfl 40 2 Tryd.underlying32 sizeSeg b off n c k rfl rfl hlt ?_) | (refine partLoad (by rfl) 40 _ rfl b (off + k * 2) rfl (cs := #[.int .u32 (sa : Nat), .slice sD sn sc]) HRG.out Tryd.underlying40 rfl infoSeg ?_) | (refine wlAlloc (by rfl) 40 rfl #[.int .u32 0, .slice none 0 0] zeroSeg ?_; intro gX w5 hg hl ha hb; have HNX := Lib.hid (And.intro hb hb.size); have HGX := Lib.hid hg; have HXS := Lib.hid ha; clear ha hb hg hl) | (refine rowStore (by rfl) 40 _ _ rfl gX rfl #[.int .u32 (sa : Nat), .slice sD sn sc] rfl HXS.out infoSeg rfl (by simp [Value.oneCell']) ?_; intro w6 ha ho; replace HXS := Lib.hid ha; have hb := (keepBo HNX HGX.out ho).out.1; replace HB := keepB HB hb; replace HI := keepA HI hb; have s0 : w6.cell? ⟨gX, 0, none⟩ = some (.int .u32 (sa : Nat)) := cellA HXS 0; have s1 : w6.cell? ⟨gX, 1, none⟩ = some (.slice sD sn sc) := cellA HXS 1; clear ha ho hb HNX HGX))
            go_upto_region 10 with fail
            go_wp2_with (go_at_call 6; refine (awake_any m _ (St.below HS HB)).mono ?_; rintro e wz ⟨rfl, hb⟩; replace HB := keepB HB hb; clear hb)
            (go_ret; exact ⟨rfl, HB.out.1⟩)
        have v2 : decide ((16384 : Int) < (sa : Int) + (sn : Int)) = false := decide_eq_false (by omega)
        have v3 : decide (16384 < sa + sn) = false := decide_eq_false v1
        have hfit2 : FitB (some (sa + sn)) rest → FitB none (ms.map SegM.v) := by
          have h1 := fit_step HFIT2.out (fun q => z (by rw [← HSN.out]; exact congrArg List.length q)) (fun x hx => by
            unfold o2 at hx
            rcases hor with q | ⟨_, q⟩
            · rw [if_pos q] at hx; cases hx
            · rw [if_neg (by omega)] at hx
              injection hx with hx
              show x < sa
              omega) (by show sa + sd.length ≤ _; rw [HSN.out]; omega)
          rw [show (⟨sa, sd⟩ : SegV).at_ + (⟨sa, sd⟩ : SegV).d.length = sa + sn by show sa + sd.length = _; rw [HSN.out]] at h1
          exact h1
        have HFIT3 := Lib.hid hfit2
        obtain ⟨sx, hsx⟩ : ∃ x, decL (sa : Int) = x := ⟨_, rfl⟩
        have HDEC := Lib.hid hsx
        have hdec := decL_len (sa : Int) (by omega) (by omega)
        have hsr := HSR2.out
        simp only at hsr
        rw [hsx] at hsr hdec
        have HSR3 := Lib.hid hsr
        have hsl := HSL.out
        have hsrl : src.length ≤ 60000 := by omega
        obtain ⟨q1, hq1⟩ : ∃ q, src ++ (wOrg ++ [32]) = q := ⟨_, rfl⟩
        have hl1 := congrArg List.length hq1
        rw [List.length_append] at hl1
        replace hl1 : src.length + 5 = q1.length := hl1
        obtain ⟨q2, hq2⟩ : ∃ q, q1 ++ sx = q := ⟨_, rfl⟩
        have hl2 := congrArg List.length hq2
        rw [List.length_append] at hl2
        obtain ⟨q3, hq3⟩ : ∃ q, q2 ++ ([10] ++ wByte) = q := ⟨_, rfl⟩
        have hl3 := congrArg List.length hq3
        rw [List.length_append] at hl3
        replace hl3 : q2.length + 6 = q3.length := hl3
        have HQ1 := Lib.hid hq1
        have HQ2 := Lib.hid hq2
        have HQ3 := Lib.hid hq3
        have hq1l : q1.length ≤ 70000 := by omega
        have hq2l : q2.length ≤ 70000 := by omega
        have hq3l : q3.length ≤ src.length + 40 := by omega
        have HSR4 : Hid (q3 ++ restB (sd.drop 0) rest = SRC) := Lib.hid (by rw [← hq3, ← hq2, ← hq1, ← HSR3.out]; simp)
        have hse : sa + sn ≤ 16384 := by omega
        clear hfit2 HFIT2 hsx hsr HSR2 z y v1 x1 hq1 hq2 hq3 hl1 hl2 hl3
        go_upto_region 9 with (first | (refine wlIdx (by rfl) 32 _ _ rfl 40 2 Tryd.underlying32 sizeSeg b off n c k rfl rfl hlt ?_) | (refine partLoad (by rfl) 40 _ rfl b (off + k * 2) rfl (cs := #[.int .u32 (sa : Nat), .slice sD sn sc]) HRG.out Tryd.underlying40 rfl infoSeg ?_) | (refine wlAlloc (by rfl) 40 rfl #[.int .u32 0, .slice none 0 0] zeroSeg ?_; intro gX w5 hg hl ha hb; have HNX := Lib.hid (And.intro hb hb.size); have HGX := Lib.hid hg; have HXS := Lib.hid ha; clear ha hb hg hl) | (refine rowStore (by rfl) 40 _ _ rfl gX rfl #[.int .u32 (sa : Nat), .slice sD sn sc] rfl HXS.out infoSeg rfl (by simp [Value.oneCell']) ?_; intro w6 ha ho; replace HXS := Lib.hid ha; have hb := (keepBo HNX HGX.out ho).out.1; replace HB := keepB HB hb; replace HI := keepA HI hb; have s0 : w6.cell? ⟨gX, 0, none⟩ = some (.int .u32 (sa : Nat)) := cellA HXS 0; have s1 : w6.cell? ⟨gX, 1, none⟩ = some (.slice sD sn sc) := cellA HXS 1; clear ha ho hb HNX HGX))
        simp only [Act.put, List.setIfInBounds_toArray, List.set_cons_zero, List.set_cons_succ]
        go_cut [57] from 29 to 57 (fun v wx => v = .bool false ∧ w6 = wx)
        case first =>
          rcases hor with hk0 | ⟨y1, y2⟩
          · have y3 : decide ((0 : Int) < (k : Int)) = false := decide_eq_false (by omega)
            have y5 : decide (0 < k) = false := decide_eq_false (by omega)
            clear hk0
            go_wp2_with fail
            go_meet
            exact ⟨rfl, rfl⟩
          · have y3 : decide ((0 : Int) < (k : Int)) = true := decide_eq_true (by omega)
            have y4 : decide ((sa : Int) ≤ (e : Int)) = false := decide_eq_false (by omega)
            have y5 : decide (0 < k) = true := decide_eq_true y1
            have y6 : decide (sa ≤ e) = false := decide_eq_false y2
            go_wp2_with fail
            go_meet
            exact ⟨rfl, rfl⟩
        case rest =>
          obtain ⟨rfl, rfl⟩ := hcut
          clear hor z1 x2 x3 v2 v3
          go_upto_region 12 with fail
          go_upto_region 13 with (first | (refine strAdd (by rfl) _ _ _ _ rfl (bs src) ⟨#[46, 111, 114, 103, 32]⟩ (bs q1) rfl rfl (by rw [bs_size]; show src.length + 5 ≤ _; omega) (by rw [← HQ1.out]; exact bs_add _ _) ?_) | (go_at_call 11; refine (dec_any2 (sa : Int) _ (by omega) (by omega)).mono ?_; rw [HDEC.out]; rintro e w7 ⟨rfl, hb⟩; replace HB := keepB HB hb; replace HI := keepA HI hb; replace HXS := keepA HXS hb; clear hb) | (refine strAdd (by rfl) _ _ _ _ rfl (bs q1) (bs sx) (bs q2) rfl rfl (by rw [bs_size, bs_size]; omega) (by rw [← HQ2.out]; exact bs_add _ _) ?_) | (refine strAdd (by rfl) _ _ _ _ rfl (bs q2) ⟨#[10, 46, 98, 121, 116, 101]⟩ (bs q3) rfl rfl (by rw [bs_size]; show q2.length + 6 ≤ _; omega) (by rw [← HQ3.out]; exact bs_add _ _) ?_))
          obtain ⟨wo, rfl⟩ : ∃ wo, wo = w7 := ⟨w7, rfl⟩
          obtain ⟨gko, rfl⟩ : ∃ z, z = gk := ⟨gk, rfl⟩
          go_wp2
          go_loopg [3, 7] sn (fun gj s y wr => ∃ (j : Nat) (s2 : List UInt8), s = .string (bs s2) ∧ y = .int .i64 (j : Nat) ∧ j + gj = sn ∧ s2.length ≤ src.length + 40 + 11 * j ∧ Hid (s2 ++ restB (sd.drop j) rest = SRC) ∧ Hid (wr.heap[gI]? = some (.cells (imA st (some ⟨b, off, none⟩) n c) 34 (0, 0))) ∧ Hid (wr.heap[gX]? = some (.cells #[.int .u32 (sa : Nat), .slice sD sn sc] 40 (0, 0))) ∧ Hid (Below w.heap.size w wr ∧ w.heap.size ≤ wr.heap.size))
          case atStart => exact ⟨0, q3, rfl, rfl, by omega, by omega, HSR4, HI, HXS, HB⟩
          case round =>
            clear HSR4 HI HXS HB i1 s0 s1
            obtain ⟨j, s2, rfl, rfl, hj, hs2, HSR5, HI, HXS, HB⟩ := hrel
            have HJ := Lib.hid hj
            have s1 : wr.cell? ⟨gX, 1, none⟩ = some (.slice sD sn sc) := cellA HXS 1
            have hs2l : s2.length ≤ 70000 := by omega
            have HS2 := Lib.hid hs2
            clear hj hs2
            by_cases jlt : j < sn
            · obtain ⟨bt, hbt0⟩ : ∃ bt, sd[j]? = some bt := ⟨_, List.getElem?_eq_getElem (by rw [HSN.out]; exact jlt)⟩
              obtain ⟨bD, oD, rfl, hcD⟩ := (HG4.out.below HB.out.1).2 (by omega)
              have hbt := bt.toNat_lt
              replace hbt : bt.toNat < 4294967296 := by omega
              have d0 : wr.cell? ⟨bD, oD + j, none⟩ = some (.int .u8 (bt.toNat : Int)) := by rw [hcD j jlt, el_ints hbt0]
              obtain ⟨hx, hhx⟩ : ∃ x, hexL bt.toNat = x := ⟨_, rfl⟩
              have hhl : hx.length = 8 := by rw [← hhx]; simp [hexL]
              obtain ⟨t1, ht1⟩ : ∃ q, s2 ++ [32, 48, 120] = q := ⟨_, rfl⟩
              have hl1 := congrArg List.length ht1
              rw [List.length_append] at hl1
              replace hl1 : s2.length + 3 = t1.length := hl1
              obtain ⟨t2, ht2⟩ : ∃ q, t1 ++ hx = q := ⟨_, rfl⟩
              have hl2 := congrArg List.length ht2
              rw [List.length_append] at hl2
              have HT1 := Lib.hid ht1
              have HT2 := Lib.hid ht2
              have HHX := Lib.hid hhx
              have ht1l : t1.length ≤ 80000 := by omega
              have hr := HSR5.out
              rw [drop_cons hbt0, restB_cons] at hr
              have HSR6 : Hid (t2 ++ restB (sd.drop (j + 1)) rest = SRC) := Lib.hid (by rw [← hr, ← ht2, ← ht1, ← hhx]; simp [hexW])
              have HT2L : Hid (t2.length = s2.length + 11) := Lib.hid (by omega)
              clear hcD hbt0 hhx ht1 hl1 ht2 hl2 hr HSR5
              go_upto_region 16 with fail
              go_wp2_with (first | (refine strAdd (by rfl) _ _ _ _ rfl (bs s2) ⟨#[32, 48, 120]⟩ (bs t1) rfl rfl (by rw [bs_size]; show s2.length + 3 ≤ _; omega) (by rw [← HT1.out]; exact bs_add _ _) ?_) | (go_at_call 12; refine (hex_any bt.toNat _ hbt).mono ?_; rw [HHX.out]; rintro e w8 ⟨rfl, hb⟩; replace HB := keepB HB hb; replace HI := keepA HI hb; replace HXS := keepA HXS hb; clear hb) | (refine strAdd (by rfl) _ _ _ _ rfl (bs t1) (bs hx) (bs t2) rfl rfl (by rw [bs_size, bs_size]; omega) (by rw [← HT2.out]; exact bs_add _ _) ?_))
              go_roundg (gk - 1)
              case measure => have := HJ.out; omega
              case rel => exact ⟨j + 1, t2, rfl, rfl, by have := HJ.out; omega, by have := HS2.out; have := HT2L.out; omega, HSR6, HI, HXS, HB⟩
            · obtain rfl : j = sn := by have := HJ.out; omega
              obtain ⟨s3, hs3⟩ : ∃ q, s2 ++ [10] = q := ⟨_, rfl⟩
              have hl3 := congrArg List.length hs3
              rw [List.length_append] at hl3
              replace hl3 : s2.length + 1 = s3.length := hl3
              have HS3 := Lib.hid hs3
              have hr := HSR5.out
              have hnil : sd.drop j = [] := List.drop_eq_nil_of_le (by rw [HSN.out]; exact Nat.le_refl _)
              rw [hnil] at hr
              have HSR6 : Hid (s3 ++ joinN (linesB ((ms.drop (k + 1)).map SegM.v)) = SRC) := Lib.hid (by rw [← hr, ← hs3, HREST.out]; simp [restB])
              have HL3 := Lib.hid hl3
              clear hs3 hl3 hr hnil HSR5
              go_wp2_with (refine strAdd (by rfl) _ _ _ _ rfl (bs s2) ⟨#[10]⟩ (bs s3) rfl rfl (by rw [bs_size]; show s2.length + 1 ≤ _; omega) (by rw [← HS3.out]; exact bs_add _ _) ?_)
              go_roundg (gko - 1)
              case measure => have := HK.out; omega
              case rel => exact ⟨k + 1, sa + j, s3, rfl, rfl, rfl, by have := HK.out; omega, hse, by have := HS2.out; have := HL3.out; have := HSL.out; omega, HSR6, Lib.hid (by rw [HREST.out, show o2 (k + 1) (sa + j) = some (sa + j) from if_neg (by omega)]; exact HFIT3.out), HI, HB⟩
      · obtain rfl : k = n := by have := HK.out; omega
        have hnil : ms.drop k = [] := List.drop_eq_nil_of_le (by rw [HN.out]; exact Nat.le_refl _)
        have hfit : FitB none (ms.map SegM.v) := HFIT.out (by rw [hnil]; trivial)
        have hsr := HSR.out
        rw [hnil] at hsr
        have hsrc : src = joinN (linesB (ms.map SegM.v)) := by rw [HSRC.out, ← hsr]; simp [linesB, joinN]
        have hbig : src.length ≤ 60000 := by have := HSL.out; omega
        obtain ⟨hl0, hlB⟩ := linesB_ok (ms.map SegM.v) hfit (by rw [List.length_map, HN.out]; omega) HD.out (by rw [← hsrc]; omega)
        obtain ⟨VS, hVS⟩ : ∃ V, ms.map SegM.v = V := ⟨_, rfl⟩
        have HAS : Hid (∀ w', St m w' → Calls Tryd.prog 9 #[.string (bs src)] w' fun e w'' => AsmTo w' w'' ⟨0, 0, (startV none VS, VS), []⟩ e) := Lib.hid (fun w' h => by
          have := assemble_any src m w' h hbig (by rw [hsrc, hl0.2]; exact hlB)
          rw [hsrc, bytes_all _ hfit hl0, ← hsrc, hVS] at this
          exact this)
        have HVS := Lib.hid hVS
        clear hnil hfit hsr hsrc hl0 hlB hVS HFIT HSR hlt
        go_upto_region 18 with fail
        go_upto_region 19 with (first | (go_at_call 9; refine (HAS.out _ (St.below HS HB)).mono ?_; rintro e w9 ⟨⟨S9, c9, ms9, nv, rfl, hms, hsg, hnm⟩, hb⟩; replace HB := keepB HB hb; replace HI := keepA HI hb; have HSG := Lib.hid hsg; have HMS := Lib.hid hms; obtain ⟨An, cn, rfl⟩ := own_valk hnm; clear hb hms hsg hnm) | (refine wlAlloc (by rfl) 34 rfl (imA 0 none 0 0) zeroIm ?_; intro gJ w5 hg hl ha hb; have HNX := Lib.hid (And.intro hb hb.size); have HGX := Lib.hid hg; have HJ := Lib.hid ha; clear ha hb hg hl) | (refine rowStore (by rfl) 34 _ _ rfl gJ rfl (imA (startV none VS) S9 ms9.length c9) rfl HJ.out infoIm rfl (imA_one _ _ _ _) ?_; intro w6 ha ho; replace HJ := Lib.hid ha; have hb := (keepBo HNX HGX.out ho).out.1; have HIJ : Hid (gI ≠ gJ) := Lib.hid (Nat.ne_of_lt (Nat.lt_of_lt_of_le (Array.getElem?_eq_some_iff.1 HI.out).1 HGX.out)); replace HB := keepB HB hb; replace HI := keepA HI hb; replace HSG := Lib.hid (HSG.out.below hb); clear ha ho hb HNX HGX))
        obtain ⟨V0, hV0⟩ : ∃ V0, startV none VS = V0 := ⟨_, rfl⟩
        rw [hV0] at HJ
        have HV0 := Lib.hid hV0
        have hm9 : ms9.length ≤ 9223372036854775806 := by
          have h1 := congrArg List.length HMS.out
          have h2 := congrArg List.length HVS.out
          rw [List.length_map] at h1 h2
          have h3 := HN.out
          omega
        have HSI : Hid (∀ w', RdSgG w' S9 ms9 → RdSgG w' S ms → Calls Tryd.prog 13 #[.agg (imA V0 S9 ms9.length c9), .agg (imA V0 S k c)] w' fun e w'' => e = .returned (.bool true) ∧ Below w'.heap.size w' w'') := Lib.hid (fun w' h1 h2 => by
          have := sameimg_any V0 c9 V0 c S9 S ms9 ms w' h1 h2 hm9 (by rw [HN.out]; omega)
          rw [HN.out, decide_eq_true (p := V0 = V0 ∧ ms9.map SegM.v = ms.map SegM.v) ⟨rfl, HMS.out.trans HVS.out.symm⟩] at this
          exact this)
        obtain ⟨n9, hn9⟩ : ∃ n9, ms9.length = n9 := ⟨_, rfl⟩
        rw [hn9] at HSI HJ
        clear hV0 hm9 hn9
        by_cases hk0 : k = 0
        · have HV1 : Hid (V0 = 0) := Lib.hid (by
            rw [← HV0.out, ← HVS.out]
            have : ms = [] := List.eq_nil_of_length_eq_zero (by rw [HN.out]; exact hk0)
            rw [this]; rfl)
          have hz := HV1.out
          subst hz
          have z1 : ¬ 0 < k := by omega
          have z2 : ¬ (0 : Int) < (k : Int) := by omega
          have i1 := (show World.cell? _ ⟨gI, 1, none⟩ = some (.slice S k c) from cellA HI 1)
          clear hk0
          go_upto_region 22 with fail
          go_upto_region 23 with (refine cellStore (by rfl) 25 _ _ rfl gI 0 rfl (.int .u32 0) rfl rfl rfl HI.out (show 0 < 2 by decide) infoU32 ?_; intro w7 ha ho; have HIO := HI; replace HI : Hid (w7.heap[gI]? = some (.cells (imA 0 S k c) 34 (0, 0))) := Lib.hid ha; replace HJ := keepAo HJ (Ne.symm HIJ.out) ho; replace HSG := Lib.hid (HSG.out.only ho HIO.out (by decide) (by decide)); replace HB := keepBo HB HGI.out ho; clear ha ho)
          go_wp2_with (first | (refine rowLoad (by rfl) 34 _ rfl gJ rfl (cs := imA 0 S9 n9 c9) HJ.out Tryd.underlying34 rfl infoIm ?_) | (refine rowLoad (by rfl) 34 _ rfl gI rfl (cs := imA 0 S k c) HI.out Tryd.underlying34 rfl infoIm ?_) | (go_at_call 13; refine (HSI.out _ (segs_rdg HSG.out) (HX.out.below HB.out.1)).mono ?_; rintro e w8 ⟨rfl, hb⟩; replace HB := keepB HB hb; clear hb) | (go_at_call 6; refine (awake_any m _ (St.below HS HB)).mono ?_; rintro e wz ⟨rfl, hb⟩; replace HB := keepB HB hb; clear hb))
          go_ret
          exact ⟨rfl, HB.out.1⟩
        · have z1 : 0 < k := by omega
          have HXr := Lib.hid (HX.out.below HB.out.1)
          obtain ⟨b, off, rfl, -, -⟩ := HXr.out.1.2.2 (by rw [HN.out]; omega)
          obtain ⟨m0, hm0⟩ : ∃ x, ms[0]? = some x := ⟨_, List.getElem?_eq_getElem (by rw [HN.out]; exact z1)⟩
          have hrg := RwA.at_ HXr.out.1 (by rw [HN.out]; omega) (sA_get hm0) 0 (.int .u32 (m0.at_ : Nat)) rfl
          have hV1 : m0.at_ = V0 := by
            rw [← HV0.out, ← HVS.out]
            cases ms with
            | nil => cases hm0
            | cons a r => injection hm0 with hm0; rw [← hm0]; rfl
          rw [hV1] at hrg
          have e0 : World.cell? _ ⟨b, off, none⟩ = some (.int .u32 (V0 : Nat)) := hrg
          have hv9 : V0 < 4294967296 := by rw [← hV1]; exact (HX.out.2 _ (List.mem_of_getElem? hm0)).1
          have i1 := (show World.cell? _ ⟨gI, 1, none⟩ = some (.slice (some ⟨b, off, none⟩) k c) from cellA HI 1)
          clear hk0 HXr hm0 hrg hV1
          go_upto_region 22 with (refine wlIdx (by rfl) 32 _ _ rfl 40 2 Tryd.underlying32 sizeSeg b off k c 0 rfl rfl z1 ?_)
          go_upto_region 23 with (refine cellStore (by rfl) 25 _ _ rfl gI 0 rfl (.int .u32 (V0 : Nat)) rfl rfl rfl HI.out (show 0 < 2 by decide) infoU32 ?_; intro w7 ha ho; have HIO := HI; replace HI : Hid (w7.heap[gI]? = some (.cells (imA V0 (some ⟨b, off, none⟩) k c) 34 (0, 0))) := Lib.hid ha; replace HSG := Lib.hid (HSG.out.only ho HIO.out (by decide) (by decide)); replace HJ := keepAo HJ (Ne.symm HIJ.out) ho; replace HB := keepBo HB HGI.out ho; clear ha ho)
          go_wp2_with (first | (refine rowLoad (by rfl) 34 _ rfl gJ rfl (cs := imA V0 S9 n9 c9) HJ.out Tryd.underlying34 rfl infoIm ?_) | (refine rowLoad (by rfl) 34 _ rfl gI rfl (cs := imA V0 (some ⟨b, off, none⟩) k c) HI.out Tryd.underlying34 rfl infoIm ?_) | (go_at_call 13; refine (HSI.out _ (segs_rdg HSG.out) (HX.out.below HB.out.1)).mono ?_; rintro e w8 ⟨rfl, hb⟩; replace HB := keepB HB hb; clear hb) | (go_at_call 6; refine (awake_any m _ (St.below HS HB)).mono ?_; rintro e wz ⟨rfl, hb⟩; replace HB := keepB HB hb; clear hb))
          go_ret
          exact ⟨rfl, HB.out.1⟩
end Go.Proofs.YtaclidjhgpkmpaaDoor.My
set_option linter.unusedVariables false
set_option linter.unusedSimpArgs false
namespace Go.Proofs.YtaclidjhgpkmpaaDoor
open Go.ChangeShapes Go.WideShapes Go.ChangeAt Go.RowKit My
theorem My.bytes_w (st c : Nat) (S : Option Addr) (ms : List SegM) (m : Int) (w : World) (hS : St m w) (hst : st < 4294967296) (hx : RdSgG w S ms) (hm : ms.length ≤ 9223372036854775807) (hc : ms.length ≤ c) :
    Calls Tryd.prog 4 #[.agg (imA st S ms.length c)] w fun e w' => e = .returned (.bool true) ∧ Below w.heap.size w w' := asmBytes_any st c S ms m w hS hst hx hm hc
theorem own_AsmBytes : ownKnob Tryd.prog.godebug = none := by kernel_rfl
theorem laidOut_AsmBytes : laidOutB Tryd.prog = true := by kernel_rfl
noncomputable def laid_AsmBytes : List (String × DataW Unit) := [("cotterel/inst.fields", Rows.laid_cotterel_inst_fields), ("unicode/utf8.acceptRanges", Rows.laid_unicode_utf8_acceptRanges), ("unicode.White_Space", Rows.laid_unicode_White_Space), ("strings.asciiSpace", Rows.laid_strings_asciiSpace), ("unicode/utf8.first", Rows.laid_unicode_utf8_first)]
set_option maxRecDepth 100000 in
theorem lifted_AsmBytes (os : Os) (started : os.Started) (H : Type) (enc : TypeId × Value → H) :
    ReturnsInHanded {} Tryd.checked os 4 .any (fun w args => (Rows.asmBytesSpec.pre enc Tryd.prog Tryd.f4 [] false w args ∧ laidMetH Tryd.prog laid_AsmBytes w) ∧ sizedMet enc Tryd.prog Tryd.f4 (OpenSpec.ofChange Rows.asmBytesSpec) false w args) (Rows.asmBytesSpec.post enc Tryd.prog Tryd.f4 false true false false) := by
  refine handed_shaped (C := Tryd.checked) (X := fun w _ => laidMetH Tryd.prog laid_AsmBytes w) (fun _ _ _ hh h => h.of_heap hh) own_AsmBytes started (by kernel_rfl) Tryd.func4
    (ChangeSpec.witness_shaped (enc := enc) (C := Tryd.checked) (os := os) (X := fun w _ => laidMetH Tryd.prog laid_AsmBytes w) false (World.laidAll Tryd.prog os laid_AsmBytes) #[.agg #[.int .u32 0, .slice none 0 0]] 8 (World.laidAll_os _ _ _)
      (World.shaped_of_ZipB (by kernel_rfl) (by kernel_rfl)) (by kernel_rfl) (by kernel_rfl) (by kernel_rfl)
      (by rw [MakeChecks.laidMetH_plain _ _ _ (by kernel_rfl)]; exact laidMet_laidAll _ (by kernel_rfl) (by kernel_rfl))) ?_
  intro W base args ds gs before hval0 hW hcnd hsz0 hsh hlaid _
  obtain ⟨mx, hst0⟩ := start_any W hsh hlaid
  have hsz : (DataW.weightsEach Tryd.prog (Tryd.f4.params.toList ++ Rows.asmBytesSpec.plain.varTypes Tryd.prog) (ds ++ gs)).all (· ≤ reachBytes) = true := hsz0
  have hval : ∀ (j : Nat) t v, Tryd.f4.params[j]? = some t → args[j]? = some v → Value.okWide Tryd.prog W .any base t v := hval0
  have hW' := hW
  obtain ⟨p, q, hA0, hV, rfl, hfz, hnd⟩ := hW
  have hA : DataW.TrodAll enc Tryd.prog W 0 (fun _ => true) true Tryd.f4.params.toList args.toList ds p := hA0
  rw [Tryd.params4] at hA hval hsz
  obtain ⟨v0, vs0, d0, ds0, p0, q0, hargs, rfl, rfl, h0, r0⟩ := trodAll_cons hA
  obtain ⟨rfl, rfl, rfl⟩ := trodAll_nil r0
  obtain rfl : args = #[v0] := by cases args; simp_all
  obtain ⟨rfl, rfl⟩ := trodVars_none hV
  have ok0 := hval 0 34 v0 rfl rfl
  have lt0 : ∀ x ∈ p0, x.block < W.heap.size := fun x hx => by simpa using hW'.lt x (by simp [hx])
  clear hA0 hval0 hsz0
  obtain ⟨st, S, ms, c, rfl, hst, hx, hm1, hm2⟩ := open_image ok0 h0
  refine (bytes_w st c S ms mx W hst0 hst hx hm1 hm2).mono fun e W' ⟨he, bel⟩ => ?_
  subst he
  exact ⟨_, rfl, _, _, _, [], _, [], hW', trodAll_mk1 (shut_bool Tryd.underlying4 _), (trodAll_cons_mk (Below.trod laidOut_AsmBytes (by kernel_rfl) (of_decide_eq_true (by kernel_rfl)) h0 bel lt0) trodAll_mk0), rfl, bel.frame _, fun h => by cases h⟩
theorem asmBytes_holds : Rows.AsmBytesSaid :=
  OpenClaim.holds_of_wide 4 Tryd.f4 rfl rfl rfl rfl rfl rfl rfl ⟨rfl, rfl, rfl, rfl, rfl⟩ rfl rfl rfl rfl rfl (by kernel_rfl) Tryd.func4 (by kernel_rfl)
    (of_decide_eq_true (by kernel_rfl)) (by unfold Func.isWrapper; first | (rw [if_pos (by decide +kernel)]; kernel_rfl) | (rw [if_neg (by decide +kernel)]; exact ⟨rfl, rfl⟩))
    (fun os started H enc _ => lifted_AsmBytes os started H enc)
#print axioms asmBytes_holds
theorem card_asmBytes : Rows.AsmBytesCardSaid :=
  Claim7.holds_tied_plain_at .later [] [.data, .data, .listed, .data, .pinned] true (true, "c80b4d8879ee96991ee18a29920e093ee7a5f8a4ffd548ecceb1221a4f0c2efc") false
    asmBytes_holds (fun _ h => by cases h) (by kernel_rfl) (fun _ h => by cases h) asmBytes_row_tie rfl ⟨rfl, rfl⟩ (by kernel_rfl) rfl
    (fun f fn hf hfn => by
      obtain rfl : f = 4 := Option.some.inj ((show Tryd.prog.funcNamed "cotterel/cotterellaw08.AsmBytes" = some 4 by kernel_rfl).symm.trans hf) |>.symm
      obtain rfl : fn = Tryd.f4 := (Option.some.inj (Tryd.func4.symm.trans hfn)).symm
      exact ⟨by kernel_rfl, fun j t ht => by
        rw [Tryd.params4] at ht
        have hm : t ∈ [34] := by simpa using Array.mem_of_getElem? ht
        have hall : ([34].all fun u => !Tryd.prog.wantsStandIn u) = true := by kernel_rfl
        exact (show Tryd.prog.wantsStandIn t = false by simpa using List.all_eq_true.1 hall t hm)⟩)
    (by kernel_rfl)
#print axioms card_asmBytes
end Go.Proofs.YtaclidjhgpkmpaaDoor
