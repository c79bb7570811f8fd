/- Walk: the number of any text, whole; and digits that are parsed back (plain). -/
import Derived.Test.YtaclidjhgpkmpaaDoorTextParse2
import Derived.Test.YtaclidjhgpkmpaaDoorTextDec2
set_option linter.unusedVariables false
namespace Go.Proofs.YtaclidjhgpkmpaaDoor.My
open Go.RowKit
/-- The number of any text, or what is wrong. -/
def parseV (s : ByteArray) : Int × Int := if (hexV s).2 = true then ((hexV s).1, 0) else if 0 < s.size ∧ bAt s 0 = 45 then tailV true (s.extract 1 s.size) else tailV false s
theorem hexV_no {s : ByteArray} (h : ¬ (hexV s).2 = true) : hexV s = (0, false) := by
  have key : ∀ (b i : Nat) (n : Int), ¬ (hexR s b i n).2 = true → hexR s b i n = (0, false) := by
    intro b
    induction b with
    | zero => intro i n h; exact absurd rfl h
    | succ b ih =>
      intro i n h
      unfold hexR at h ⊢
      split
      · rfl
      · rename_i q
        rw [if_neg q] at h
        exact ih _ _ h
  unfold hexV at h ⊢
  split
  · rename_i q
    rw [if_pos q] at h
    exact key _ _ _ h
  · rfl
theorem parse_none (s : ByteArray) (w : World) (h : s.size = 0) : Calls Tryd.prog 73 #[.string s] w fun e w' => e = .returned (.tuple #[.int .i64 0, .int .i64 2]) ∧ Below w.heap.size w w' := by
  have hm : s.size ≤ 9223372036854775807 := by omega
  have hx : hexV s = (0, false) := by unfold hexV; rw [if_neg (fun q => by have := q.1; omega)]
  have e1 : (s.toList == []) = true := by rw [is_none, h]; rfl
  have HB := startB w
  go_enter Tryd.func73, Tryd.ntmps73
  go_wp2_with (go_at_call 84; refine (hexP_any _ _ hm).mono ?_; rintro e w1 ⟨rfl, hb⟩; rw [hx]; replace HB := keepB HB hb; clear hb)
  go_ret2
  exact ⟨rfl, HB.out.1⟩
theorem parse_any (s : ByteArray) (w : World) (hm : s.size ≤ 9223372036854775807) : Calls Tryd.prog 73 #[.string s] w fun e w' => e = .returned (.tuple #[.int .i64 (parseV s).1, .int .i64 (parseV s).2]) ∧ Below w.heap.size w w' := by
  unfold parseV
  split
  · rename_i h
    refine parse_hex s w ((hexV s).1, 0) hm (hexV s).1 ?_ rfl
    rw [← h]
  · rename_i h
    have hx := hexV_no h
    split
    · rename_i q
      have hz : (s.extract 1 s.size).size = s.size - 1 := by rw [ByteArray.size_extract]; omega
      by_cases h1 : (s.extract 1 s.size).size = 0
      · exact parse_m_none s w _ hm hx q.1 q.2 _ rfl rfl h1
      · by_cases h2 : bAt (s.extract 1 s.size) 0 = 48
        · exact parse_m_nought s w _ hm hx q.1 q.2 _ rfl rfl (by omega) h2
        · exact parse_m_ok s w _ hm hx q.1 q.2 _ rfl rfl (by omega) h2
    · rename_i q
      by_cases h1 : s.size = 0
      · have : tailV false s = (0, 2) := by unfold tailV; rw [if_pos (.inl h1)]
        rw [this]
        exact parse_none s w h1
      · have q0 : bAt s 0 ≠ 45 := fun r => q ⟨by omega, r⟩
        by_cases h2 : bAt s 0 = 48
        · by_cases h3 : 1 < s.size
          · exact parse_p_nought s w _ hm hx (by omega) q0 rfl (by omega) h2 h3
          · exact parse_p_ok1 s w _ hm hx (by omega) q0 rfl h2 (by omega)
        · exact parse_p_ok2 s w _ hm hx (by omega) q0 rfl h2
theorem bs_extract (l : List UInt8) (a b : Nat) : (bs l).extract a b = bs ((l.drop a).take (b - a)) := ByteArray.extract_mk l a b
def decF (u : Int) (l : List UInt8) : Int := l.foldl (fun u c => 10 * u + ((c.toNat : Int) - 48)) u
theorem decR_list (l : List UInt8) : ∀ (b i : Nat) (u : Int), i + b = l.length → decR (bs l) b i u = decF u (l.drop i)
  | 0, i, u, h => by rw [List.drop_eq_nil_of_le (by omega)]; rfl
  | b + 1, i, u, h => by
    have hi : i < l.length := by omega
    rw [decR, decR_list l b (i + 1) _ (by omega), List.drop_eq_getElem_cons hi, bs_at hi]
    rfl
theorem decF_digP : ∀ (u : Nat), decF 0 (digP u) = (u : Int) := by
  intro u
  induction u using Nat.strongRecOn with
  | ind u ih =>
    by_cases h : u < 10
    · rw [digP_one h]
      show 10 * (0 : Int) + (((hd u).toNat : Int) - 48) = u
      rw [hd_nat (by omega), if_pos h]
      omega
    · have e := ih (u / 10) (by omega)
      rw [digP_more h]
      unfold decF at e ⊢
      rw [List.foldl_append, e]
      show 10 * ((u / 10 : Nat) : Int) + (((hd (u % 10)).toNat : Int) - 48) = u
      rw [hd_nat (by omega), if_pos (by omega)]
      omega
theorem digP_digs (u : Nat) : ∀ c ∈ digP u, 48 ≤ c.toNat ∧ c.toNat ≤ 57 := by
  induction u using Nat.strongRecOn with
  | ind u ih =>
    intro c hc
    have one : ∀ k, k < 10 → c = hd k → 48 ≤ c.toNat ∧ c.toNat ≤ 57 := fun k hk e => by
      rw [e, hd_nat (by omega), if_pos hk]; omega
    by_cases h : u < 10
    · rw [digP_one h] at hc
      exact one u h (by simpa using hc)
    · rw [digP_more h, List.mem_append] at hc
      rcases hc with hc | hc
      · exact ih (u / 10) (by omega) c hc
      · exact one (u % 10) (by omega) (by simpa using hc)
theorem digP_pos (u : Nat) : 0 < (digP u).length := by
  by_cases h : u < 10
  · rw [digP_one h]; simp
  · rw [digP_more h]; simp
theorem digP_head (u : Nat) (h0 : 1 ≤ u) : ∀ (h : 0 < (digP u).length), (digP u)[0].toNat ≠ 48 := by
  induction u using Nat.strongRecOn with
  | ind u ih =>
    intro h
    by_cases h9 : u < 10
    · simp only [digP_one h9, List.getElem_cons_zero]
      rw [hd_nat (by omega), if_pos h9]; omega
    · have e := ih (u / 10) (by omega) (by omega) (digP_pos _)
      simp only [digP_more h9]
      rw [List.getElem_append_left (digP_pos _)]
      exact e
theorem digs_digP (u : Nat) : digs (bs (digP u)) := fun i hi => by
  rw [bs_size] at hi
  rw [bs_at hi]
  exact digP_digs u _ (List.getElem_mem hi)
theorem tail_digP (m : Bool) (u : Nat) (h : u < 10 ^ 19) (h0 : m = true → 1 ≤ u) : tailV m (bs (digP u)) = valN m (u : Int) := by
  have hp := digP_pos u
  have hl := digP_len 19 u (by decide) h
  have nb : ¬ badV m (bs (digP u)) := by
    rintro (q | ⟨q, r⟩ | q)
    · rw [bs_size] at q; omega
    · rw [bs_at hp] at q
      by_cases hu : 1 ≤ u
      · exact digP_head u hu hp q
      · have : u = 0 := by omega
        subst this
        rcases r with r | r
        · exact absurd (h0 r) (by decide)
        · rw [bs_size, digP_one (by decide)] at r; simp at r
    · exact q (digs_digP u)
  unfold tailV
  rw [if_neg nb, if_neg (by rw [bs_size]; omega), bs_size, decR_list _ _ _ _ (by omega), List.drop_zero, decF_digP]
theorem hexV_of_not {s : ByteArray} (h : ¬ okX s) : hexV s = (0, false) := by unfold hexV; rw [if_neg h]
theorem parse_decL (n : Int) (n0 : -9223372036854775808 ≤ n) (n1 : n ≤ 9223372036854775807) : parseV (bs (decL n)) = (n, 0) := by
  obtain ⟨U, hU⟩ : ∃ U, n.natAbs = U := ⟨_, rfl⟩
  have hp := digP_pos U
  have h10 : (10 : Nat) ^ 19 = 10000000000000000000 := by decide
  unfold decL
  rw [hU]
  by_cases h : n < 0
  · rw [if_pos h]
    have hx : hexV (bs (45 :: digP U)) = (0, false) := hexV_of_not fun q => by
      have := q.2.2.1
      rw [bs_at (by simp)] at this
      simp at this
    have e : (bs (45 :: digP U)).extract 1 (bs (45 :: digP U)).size = bs (digP U) := by
      rw [bs_extract, bs_size]
      simp
    unfold parseV
    rw [hx, if_neg (by decide), if_pos ⟨by rw [bs_size]; simp, by rw [bs_at (by simp)]; rfl⟩, e, tail_digP true U (by omega) (fun _ => by omega)]
    unfold valN
    rw [if_pos rfl, if_pos (by omega)]
    have : -(U : Int) = n := by omega
    rw [this]
  · rw [if_neg h]
    have hx : hexV (bs (digP U)) = (0, false) := hexV_of_not fun q => by
      have h1 := q.2.2.2
      have h2 := q.1
      rw [bs_size] at h2
      have := (digs_digP U 1 (by rw [bs_size]; omega)).2
      omega
    have h45 : ¬ (0 < (bs (digP U)).size ∧ bAt (bs (digP U)) 0 = 45) := fun q => by
      have := (digs_digP U 0 q.1).1
      omega
    unfold parseV
    rw [hx, if_neg (by decide), if_neg h45, tail_digP false U (by omega) (fun q => by cases q)]
    unfold valN
    rw [if_neg (by decide), if_pos (by omega)]
    have : (U : Int) = n := by omega
    rw [this]
end Go.Proofs.YtaclidjhgpkmpaaDoor.My
