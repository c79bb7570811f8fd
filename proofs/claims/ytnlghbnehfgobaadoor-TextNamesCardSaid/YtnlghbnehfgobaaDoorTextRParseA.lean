/- Walk: the first word of a text, where its fields begin, and the number at a place: the reference's. -/
import Derived.Test.YtnlghbnehfgobaaDoorTextParsePlain
set_option linter.unusedVariables false
set_option linter.unusedSimpArgs false
namespace Go.Proofs.YtnlghbnehfgobaaDoor.My
open Go.RowKit
theorem drop_at {s : List UInt8} {k : Nat} (h : k < s.length) : ∃ x : UInt8, s.drop k = x :: s.drop (k + 1) ∧ bAt (bs s) k = x.toNat ∧ s.take (k + 1) = s.take k ++ [x] :=
  ⟨s[k], List.drop_eq_getElem_cons h, bs_at h, by rw [List.take_succ_eq_append_getElem h]⟩
theorem bs_take (s : List UInt8) (k : Nat) : (bs s).extract 0 k = bs (s.take k) := by
  rw [bs_extract, List.drop_zero, Nat.sub_zero]
theorem ret_bs {a b : ByteArray} (h : a = b) : Ending.returned (.string a) = .returned (.string b) := by rw [h]
set_option maxHeartbeats 1000000 in
theorem rhead_any (s : List UInt8) (w : World) (hs : s.length ≤ 1000000) : Calls Tryd.prog 39 #[.string (bs s)] w fun e w' => e = .returned (.string (bs (headV s))) ∧ w = w' := by
  obtain ⟨S, hS⟩ : ∃ S, bs s = S := ⟨_, rfl⟩
  have hz : S.size = s.length := by rw [← hS, bs_size]
  have eb : ∀ i (h : i < S.size), (S[i]'h).toNat = bAt S i := fun i h => bAt_eq h
  have hm : S.size ≤ 1000000 := by omega
  have HZ := Lib.hid hz
  have HS := Lib.hid hS
  obtain ⟨H, hH⟩ : ∃ H, headV s = H := ⟨_, rfl⟩
  have HH0 : Hid (s.take 0 ++ headV (s.drop 0) = H) := Lib.hid hH
  rw [hH, hS]
  clear hz hS hH hs
  go_enter Tryd.func39, Tryd.ntmps39
  go_wp2
  go_loop [3] (fun i => ∃ k : Nat, k ≤ S.size ∧ i = .int .i64 k ∧ Hid (s.take k ++ headV (s.drop k) = H)) (fun i => S.size - (intOf i).toNat)
  case atStart => exact ⟨0, Nat.zero_le _, rfl, HH0⟩
  case round =>
    clear HH0
    obtain ⟨k, hk, rfl, HH⟩ := hrel
    by_cases hlt : k < S.size
    · obtain ⟨x, hd, hc, ht⟩ := drop_at (s := s) (k := k) (by rw [← HZ.out]; exact hlt)
      rw [HS.out] at hc
      obtain ⟨c, hc2⟩ : ∃ c, x.toNat = c := ⟨_, rfl⟩
      rw [hc2] at hc
      have HH2 := HH.out
      rw [hd] at HH2
      by_cases h32 : x = 32
      · have q : ((c : Int) == 32) = true := by rw [← hc2, h32]; rfl
        have e : S.extract 0 k = bs H := by
          rw [← HH2, ← HS.out, bs_take, h32]
          show _ = bs (s.take k ++ [])
          rw [List.append_nil]
        have HE := Lib.hid e
        clear hd ht hc2 HH2 h32 e
        go_wp2
        go_ret
        exact ⟨ret_bs HE.out, rfl⟩
      · have q : ((c : Int) == 32) = false := beq_eq_false_iff_ne.2 (fun r => h32 (UInt8.toNat_inj.1 (show x.toNat = 32 by omega)))
        have e : headV (x :: s.drop (k + 1)) = x :: headV (s.drop (k + 1)) := by unfold headV; rw [List.takeWhile_cons, if_pos (by simpa using h32)]
        rw [e] at HH2
        have HH3 : Hid (s.take (k + 1) ++ headV (s.drop (k + 1)) = H) := Lib.hid (by rw [ht, List.append_assoc]; exact HH2)
        clear hd ht hc2 HH2 h32 e
        go_wp2
        go_round
        case rel => exact ⟨k + 1, by omega, by go_num, HH3⟩
        case measure => simp [intOf]; omega
    · have e : S = bs H := by
        have h1 := HH.out
        have h2 : s.length ≤ k := by rw [← HZ.out]; omega
        rw [List.take_of_length_le h2, List.drop_eq_nil_of_le h2] at h1
        rw [← h1, ← HS.out]
        show _ = bs (s ++ [])
        rw [List.append_nil]
      have HE := Lib.hid e
      clear e
      go_wp2
      go_ret
      exact ⟨ret_bs HE.out, rfl⟩
/-- Where fields begin. -/
def posR : List UInt8 → Nat → List Int
  | [], _ => []
  | c :: r, i => if c = 32 then ((i + 1 : Nat) : Int) :: posR r (i + 1) else posR r (i + 1)
theorem pos_suf (s : List UInt8) : ∀ (r : List UInt8) (i : Nat), s.drop i = r → sufV r = (posR r i).map (fun p => s.drop p.toNat)
  | [], i, h => rfl
  | c :: r, i, h => by
    have h2 : s.drop (i + 1) = r := by rw [← List.tail_drop, h]; rfl
    have ih := pos_suf s r (i + 1) h2
    rw [sufV, posR]
    split
    · rw [List.map_cons, ← ih]
      congr 1
      rw [Int.toNat_natCast, h2]
    · exact ih
theorem pos_range : ∀ (r : List UInt8) (i : Nat), ∀ p ∈ posR r i, 0 ≤ p ∧ p ≤ ((i + r.length : Nat) : Int)
  | [], i, p, h => by cases h
  | c :: r, i, p, h => by
    rw [posR] at h
    rw [List.length_cons]
    split at h
    · rcases List.mem_cons.1 h with h | h
      · rw [h]; omega
      · have := pos_range r (i + 1) p h; omega
    · have := pos_range r (i + 1) p h; omega
theorem pos_len : ∀ (r : List UInt8) (i : Nat), (posR r i).length ≤ r.length
  | [], i => Nat.le_refl _
  | c :: r, i => by
    rw [posR, List.length_cons]
    have := pos_len r (i + 1)
    split
    · rw [List.length_cons]; omega
    · omega
theorem infoI3 : (Tryd.prog.info? 3).map (fun i => (i.zero, i.size, i.bytes)) = some (some (.int .i64 0), 1, 8) := by kernel_rfl
set_option maxRecDepth 100000 in
set_option maxHeartbeats 2000000 in
theorem rstarts_any (s : List UInt8) (w : World) (hs : s.length ≤ 1000000) : Calls Tryd.prog 40 #[.string (bs s)] w fun e w' => (∃ A c, e = .returned (.slice A (posR s 0).length c) ∧ RdA .i64 w' A (posR s 0).length (posR s 0) ∧ Fresh w.heap.size A) ∧ Below w.heap.size w w' := by
  have HB := startB w
  obtain ⟨S, hS⟩ : ∃ S, bs s = S := ⟨_, rfl⟩
  have hz : S.size = s.length := by rw [← hS, bs_size]
  have eb : ∀ i (h : i < S.size), (S[i]'h).toNat = bAt S i := fun i h => bAt_eq h
  have hm : S.size ≤ 1000000 := by omega
  have HZ := Lib.hid hz
  have HS := Lib.hid hS
  obtain ⟨PS, hP⟩ : ∃ H, posR s 0 = H := ⟨_, rfl⟩
  have HP0 : Hid ([] ++ posR (s.drop 0) 0 = PS) := Lib.hid hP
  have HO0 : Hid (w.ownsRow w.heap.size 3 1 (.slice none 0 0) ([] : List Int).length (([] : List Int).map (Value.int .i64))) := Lib.hid (own_nil _ _ _)
  rw [hP, hS]
  clear hz hS hP hs
  go_enter Tryd.func40, Tryd.ntmps40
  go_wp2
  go_loopw [3, 4] (fun v i wr => ∃ (k : Nat) (acc : List Int), k ≤ S.size ∧ acc.length ≤ k ∧ i = .int .i64 k ∧ Hid (acc ++ posR (s.drop k) k = PS) ∧ Hid (wr.ownsRow w.heap.size 3 1 v acc.length (acc.map (Value.int .i64))) ∧ Hid (Below w.heap.size w wr ∧ w.heap.size ≤ wr.heap.size)) (fun _ i _ => S.size - (intOf i).toNat)
  case atStart => exact ⟨0, [], Nat.zero_le _, Nat.le_refl _, rfl, HP0, HO0, HB⟩
  case round =>
    clear HP0 HO0 HB
    obtain ⟨k, acc, hk, hak, rfl, HP, HO, HB⟩ := hrel
    by_cases hlt : k < S.size
    · obtain ⟨x, hd, hc, ht⟩ := drop_at (s := s) (k := k) (by rw [← HZ.out]; exact hlt)
      rw [HS.out] at hc
      obtain ⟨c, hc2⟩ : ∃ c, x.toNat = c := ⟨_, rfl⟩
      rw [hc2] at hc
      have HP2 := HP.out
      rw [hd, posR] at HP2
      by_cases h32 : x = 32
      · have q : ((c : Int) == 32) = true := by rw [← hc2, h32]; rfl
        rw [if_pos h32] at HP2
        have HP3 : Hid ((acc ++ [((k + 1 : Nat) : Int)]) ++ posR (s.drop (k + 1)) (k + 1) = PS) := Lib.hid (by rw [List.append_assoc]; exact HP2)
        clear hd ht hc2 HP2 h32
        go_wp2_with (first | (refine appOne rfl _ _ 59 3 (.int .i64 0) 8 rfl Tryd.underlying59 infoI3 rfl w.heap.size _ acc.length _ rfl HO.out (.int .i64 ((k : Int) + 1)) rfl _ rfl (by unfold maxLen; omega) (by omega) HB.out.2 ?_; intro v2 w7 ho2 hb2; have HO3 := Lib.hid ho2; replace HB := keepBg HB (Nat.le_refl _) hb2; clear ho2 hb2))
        go_roundw
        case rel => exact ⟨k + 1, acc ++ [((k + 1 : Nat) : Int)], by omega, by rw [List.length_append]; simp; omega, by go_num, HP3, Lib.hid (by rw [List.length_append, List.map_append]; exact HO3.out), HB⟩
        case measure => simp [intOf]; omega
      · have q : ((c : Int) == 32) = false := beq_eq_false_iff_ne.2 (fun r => h32 (UInt8.toNat_inj.1 (show x.toNat = 32 by omega)))
        rw [if_neg h32] at HP2
        have HP3 := Lib.hid HP2
        clear hd ht hc2 HP2 h32
        go_wp2
        go_roundw
        case rel => exact ⟨k + 1, acc, by omega, by omega, by go_num, HP3, HO, HB⟩
        case measure => simp [intOf]; omega
    · have e := HP.out
      have h2 : s.length ≤ k := by rw [← HZ.out]; omega
      rw [List.drop_eq_nil_of_le h2, posR, List.append_nil] at e
      subst e
      obtain ⟨A, c, rfl, HR, HF⟩ := RdA.of_own HO.out
      have HR2 := Lib.hid HR
      have HF2 := Lib.hid HF
      clear HR HF h2
      go_wp2
      go_ret
      exact ⟨⟨A, c, rfl, HR2.out, HF2.out⟩, HB.out.1⟩
theorem digS_nil (b : Nat) (n : Int) : digS b [] n = n := by cases b <;> rfl
theorem digS_zero (l : List UInt8) (n : Int) : digS 0 l n = n := by cases l <;> rfl
theorem pow9 {k : Nat} (h : k ≤ 9) : (10 : Int) ^ k ≤ 1000000000 := by
  have := Nat.pow_le_pow_right (n := 10) (by decide) h
  have h2 : ((10 ^ k : Nat) : Int) ≤ ((10 ^ 9 : Nat) : Int) := Int.ofNat_le.2 this
  have h3 : ((10 ^ k : Nat) : Int) = (10 : Int) ^ k := by rw [Int.natCast_pow]; rfl
  rw [h3] at h2
  exact h2
theorem ret_int64 {a b : Int} (h : a = b) : Ending.returned (.int .i64 a) = .returned (.int .i64 b) := by rw [h]
theorem digS_step {b : Nat} {x : UInt8} {r : List UInt8} {n D : Int} (h : digS (b + 1) (x :: r) n = D) : (48 ≤ x.toNat ∧ x.toNat ≤ 57 → digS b r (10 * n + (x.toNat : Int) - 48) = D) ∧ (¬ (48 ≤ x.toNat ∧ x.toNat ≤ 57) → n = D) := by
  rw [digS] at h
  refine ⟨fun q => ?_, fun q => ?_⟩
  · rw [if_pos q] at h
    rw [← h]
    congr 1
    omega
  · rwa [if_neg q] at h
set_option maxHeartbeats 4000000 in
theorem rnumber_any (s : List UInt8) (p : Nat) (w : World) (hs : s.length ≤ 1000000) (hp : p ≤ s.length + 1) : Calls Tryd.prog 41 #[.string (bs s), .int .i64 (p : Nat)] w fun e w' => e = .returned (.int .i64 (numS (s.drop p))) ∧ w = w' := by
  obtain ⟨S, hS⟩ : ∃ S, bs s = S := ⟨_, rfl⟩
  have hz : S.size = s.length := by rw [← hS, bs_size]
  have eb : ∀ i (h : i < S.size), (S[i]'h).toNat = bAt S i := fun i h => bAt_eq h
  have hm : S.size ≤ 1000000 := by omega
  have hpz : p ≤ S.size + 1 := by omega
  have HZ := Lib.hid hz
  have HS := Lib.hid hS
  rw [hS]
  unfold numS
  by_cases hlt : p < S.size
  · obtain ⟨x, hd, hc, _⟩ := drop_at (s := s) (k := p) (by rw [← hz]; exact hlt)
    rw [hS] at hc
    obtain ⟨c, hc2⟩ : ∃ c, x.toNat = c := ⟨_, rfl⟩
    rw [hc2] at hc
    by_cases h45 : x = 45
    · rw [hd, h45, if_pos (show (45 :: s.drop (p + 1)).head? = some (45 : UInt8) from rfl), List.drop_one, List.tail_cons]
      have q : ((c : Int) == 45) = true := by rw [← hc2, h45]; rfl
      obtain ⟨D, hD⟩ : ∃ D, digS 9 (s.drop (p + 1)) 0 = D := ⟨_, rfl⟩
      rw [hD]
      obtain ⟨A0, hA0⟩ : ∃ A0, p + 1 = A0 := ⟨_, rfl⟩
      have HD0 : Hid (digS (9 - 0) (s.drop A0) 0 = D) := Lib.hid (by rw [← hA0]; exact hD)
      have hA1 : A0 ≤ S.size + 1 := by omega
      have HA0 := Lib.hid hA0
      clear hz hS hs hd hc2 h45 hD hA0 hp
      go_enter Tryd.func41, Tryd.ntmps41
      go_wp2
      clear q hc hlt
      go_loop [1, 6, 7] (fun t n i => ∃ (k a : Nat) (v : Int), k ≤ 9 ∧ a ≤ S.size + 1 ∧ t = .int .i64 a ∧ n = .int .i64 v ∧ i = .int .i64 k ∧ 0 ≤ v ∧ Hid (v + 1 ≤ 10 ^ k) ∧ Hid (digS (9 - k) (s.drop a) v = D)) (fun _ _ i => 9 - (intOf i).toNat)
      case atStart => exact ⟨0, A0, 0, by omega, by omega, by rw [← HA0.out]; first | rfl | go_num, rfl, rfl, by omega, Lib.hid (by decide), HD0⟩
      case round =>
        (clear HD0; obtain ⟨k, a, v, hk, ha, rfl, rfl, rfl, hv, HV, HD⟩ := hrel; have hv9 : v ≤ 1000000000 := (by have h1 := pow9 hk; have h2 := HV.out; omega))
        by_cases k9 : k < 9
        · by_cases hlt : a < S.size
          · obtain ⟨x, hd, hc, _⟩ := drop_at (s := s) (k := a) (by rw [← HZ.out]; exact hlt)
            rw [HS.out] at hc
            have hst := HD.out
            rw [hd, show 9 - k = (9 - (k + 1)) + 1 by omega] at hst
            obtain ⟨s1, s2⟩ := digS_step hst
            obtain ⟨c, hc2⟩ : ∃ c, x.toNat = c := ⟨_, rfl⟩
            rw [hc2] at hc s1 s2
            by_cases hdg : 48 ≤ c ∧ c ≤ 57
            · have HD2 := Lib.hid (s1 hdg)
              have HV2 : Hid ((10 * v + (c : Int) - 48) + 1 ≤ 10 ^ (k + 1)) := Lib.hid (by rw [Int.pow_succ]; have := HV.out; omega)
              obtain ⟨g1, g2⟩ := hdg
              clear hd hst s1 s2 hc2
              go_wp2
              go_round
              case rel => exact ⟨k + 1, a + 1, 10 * v + (c : Int) - 48, by omega, by omega, by go_num, by first | rfl | go_num, by go_num, by omega, HV2, HD2⟩
              case measure => simp [intOf]; omega
            · have HE := Lib.hid (s2 hdg)
              clear hd hst s1 s2 hc2
              rcases (show c < 48 ∨ 57 < c by omega) with q | q
              · clear hdg
                go_wp2
                go_ret
                exact ⟨ret_int64 (by rw [HE.out]), rfl⟩
              · clear hdg
                go_wp2
                go_ret
                exact ⟨ret_int64 (by rw [HE.out]), rfl⟩
          · have HE : Hid (v = D) := Lib.hid (by
              have h1 := HD.out
              rw [List.drop_eq_nil_of_le (by rw [← HZ.out]; omega), digS_nil] at h1
              exact h1)
            go_wp2
            go_ret
            exact ⟨ret_int64 (by rw [HE.out]), rfl⟩
        · have HE : Hid (v = D) := Lib.hid (by
            have h1 := HD.out
            rw [show 9 - k = 0 by omega, digS_zero] at h1
            exact h1)
          go_wp2
          go_ret
          exact ⟨ret_int64 (by rw [HE.out]), rfl⟩
    · rw [hd, if_neg (show ¬ (x :: s.drop (p + 1)).head? = some (45 : UInt8) from fun e => h45 (by simpa using e)), ← hd]
      have q : ((c : Int) == 45) = false := beq_eq_false_iff_ne.2 (fun r => h45 (UInt8.toNat_inj.1 (show x.toNat = 45 by omega)))
      obtain ⟨D, hD⟩ : ∃ D, digS 9 (s.drop p) 0 = D := ⟨_, rfl⟩
      rw [hD]
      obtain ⟨A0, rfl⟩ : ∃ A0, A0 = p := ⟨_, rfl⟩
      have HD0 : Hid (digS (9 - 0) (s.drop A0) 0 = D) := Lib.hid hD
      clear hz hS hs hd hc2 h45 hD hp
      go_enter Tryd.func41, Tryd.ntmps41
      go_wp2
      clear q hc hlt
      go_loop [1, 6, 7] (fun t n i => ∃ (k a : Nat) (v : Int), k ≤ 9 ∧ a ≤ S.size + 1 ∧ t = .int .i64 a ∧ n = .int .i64 v ∧ i = .int .i64 k ∧ 0 ≤ v ∧ Hid (v + 1 ≤ 10 ^ k) ∧ Hid (digS (9 - k) (s.drop a) v = D)) (fun _ _ i => 9 - (intOf i).toNat)
      case atStart => exact ⟨0, A0, 0, by omega, by omega, rfl, rfl, rfl, by omega, Lib.hid (by decide), HD0⟩
      case round =>
        (clear HD0; obtain ⟨k, a, v, hk, ha, rfl, rfl, rfl, hv, HV, HD⟩ := hrel; have hv9 : v ≤ 1000000000 := (by have h1 := pow9 hk; have h2 := HV.out; omega))
        by_cases k9 : k < 9
        · by_cases hlt : a < S.size
          · obtain ⟨x, hd, hc, _⟩ := drop_at (s := s) (k := a) (by rw [← HZ.out]; exact hlt)
            rw [HS.out] at hc
            have hst := HD.out
            rw [hd, show 9 - k = (9 - (k + 1)) + 1 by omega] at hst
            obtain ⟨s1, s2⟩ := digS_step hst
            obtain ⟨c, hc2⟩ : ∃ c, x.toNat = c := ⟨_, rfl⟩
            rw [hc2] at hc s1 s2
            by_cases hdg : 48 ≤ c ∧ c ≤ 57
            · have HD2 := Lib.hid (s1 hdg)
              have HV2 : Hid ((10 * v + (c : Int) - 48) + 1 ≤ 10 ^ (k + 1)) := Lib.hid (by rw [Int.pow_succ]; have := HV.out; omega)
              obtain ⟨g1, g2⟩ := hdg
              clear hd hst s1 s2 hc2
              go_wp2
              go_round
              case rel => exact ⟨k + 1, a + 1, 10 * v + (c : Int) - 48, by omega, by omega, by go_num, by first | rfl | go_num, by go_num, by omega, HV2, HD2⟩
              case measure => simp [intOf]; omega
            · have HE := Lib.hid (s2 hdg)
              clear hd hst s1 s2 hc2
              rcases (show c < 48 ∨ 57 < c by omega) with q | q
              · clear hdg
                go_wp2
                go_ret
                exact ⟨ret_int64 (by rw [HE.out]), rfl⟩
              · clear hdg
                go_wp2
                go_ret
                exact ⟨ret_int64 (by rw [HE.out]), rfl⟩
          · have HE : Hid (v = D) := Lib.hid (by
              have h1 := HD.out
              rw [List.drop_eq_nil_of_le (by rw [← HZ.out]; omega), digS_nil] at h1
              exact h1)
            go_wp2
            go_ret
            exact ⟨ret_int64 (by rw [HE.out]), rfl⟩
        · have HE : Hid (v = D) := Lib.hid (by
            have h1 := HD.out
            rw [show 9 - k = 0 by omega, digS_zero] at h1
            exact h1)
          go_wp2
          go_ret
          exact ⟨ret_int64 (by rw [HE.out]), rfl⟩
  · have hn : s.drop p = [] := List.drop_eq_nil_of_le (by omega)
    have e : (if (s.drop p).head? = some 45 then -(digS 9 ((s.drop p).drop 1) 0) else digS 9 (s.drop p) 0) = 0 := by rw [hn]; rfl
    rw [e]
    obtain ⟨D, hD⟩ : ∃ D : Int, 0 = D := ⟨_, rfl⟩
    rw [hD]
    obtain ⟨A0, rfl⟩ : ∃ A0, A0 = p := ⟨_, rfl⟩
    have HD0 : Hid (digS (9 - 0) (s.drop A0) 0 = D) := Lib.hid (by rw [hn, digS_nil]; exact hD)
    have hlt2 : decide (A0 < S.size) = false := decide_eq_false hlt
    clear hz hS hs hn e hD hp hlt
    go_enter Tryd.func41, Tryd.ntmps41
    go_wp2
    clear hlt2
    go_loop [1, 6, 7] (fun t n i => ∃ (k a : Nat) (v : Int), k ≤ 9 ∧ a ≤ S.size + 1 ∧ t = .int .i64 a ∧ n = .int .i64 v ∧ i = .int .i64 k ∧ 0 ≤ v ∧ Hid (v + 1 ≤ 10 ^ k) ∧ Hid (digS (9 - k) (s.drop a) v = D)) (fun _ _ i => 9 - (intOf i).toNat)
    case atStart => exact ⟨0, A0, 0, by omega, by omega, rfl, rfl, rfl, by omega, Lib.hid (by decide), HD0⟩
    case round =>
      (clear HD0; obtain ⟨k, a, v, hk, ha, rfl, rfl, rfl, hv, HV, HD⟩ := hrel; have hv9 : v ≤ 1000000000 := (by have h1 := pow9 hk; have h2 := HV.out; omega))
      by_cases k9 : k < 9
      · by_cases hlt : a < S.size
        · obtain ⟨x, hd, hc, _⟩ := drop_at (s := s) (k := a) (by rw [← HZ.out]; exact hlt)
          rw [HS.out] at hc
          have hst := HD.out
          rw [hd, show 9 - k = (9 - (k + 1)) + 1 by omega] at hst
          obtain ⟨s1, s2⟩ := digS_step hst
          obtain ⟨c, hc2⟩ : ∃ c, x.toNat = c := ⟨_, rfl⟩
          rw [hc2] at hc s1 s2
          by_cases hdg : 48 ≤ c ∧ c ≤ 57
          · have HD2 := Lib.hid (s1 hdg)
            have HV2 : Hid ((10 * v + (c : Int) - 48) + 1 ≤ 10 ^ (k + 1)) := Lib.hid (by rw [Int.pow_succ]; have := HV.out; omega)
            obtain ⟨g1, g2⟩ := hdg
            clear hd hst s1 s2 hc2
            go_wp2
            go_round
            case rel => exact ⟨k + 1, a + 1, 10 * v + (c : Int) - 48, by omega, by omega, by go_num, by first | rfl | go_num, by go_num, by omega, HV2, HD2⟩
            case measure => simp [intOf]; omega
          · have HE := Lib.hid (s2 hdg)
            clear hd hst s1 s2 hc2
            rcases (show c < 48 ∨ 57 < c by omega) with q | q
            · clear hdg
              go_wp2
              go_ret
              exact ⟨ret_int64 (by rw [HE.out]), rfl⟩
            · clear hdg
              go_wp2
              go_ret
              exact ⟨ret_int64 (by rw [HE.out]), rfl⟩
        · have HE : Hid (v = D) := Lib.hid (by
            have h1 := HD.out
            rw [List.drop_eq_nil_of_le (by rw [← HZ.out]; omega), digS_nil] at h1
            exact h1)
          go_wp2
          go_ret
          exact ⟨ret_int64 (by rw [HE.out]), rfl⟩
      · have HE : Hid (v = D) := Lib.hid (by
          have h1 := HD.out
          rw [show 9 - k = 0 by omega, digS_zero] at h1
          exact h1)
        go_wp2
        go_ret
        exact ⟨ret_int64 (by rw [HE.out]), rfl⟩
end Go.Proofs.YtnlghbnehfgobaaDoor.My
