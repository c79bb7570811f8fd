/- The plain law of Keeps: whatever is renamed, retired in order, and undone from the youngest one on, names stay right. -/
import Derived.Test.YtpgighhnhidpcaaRenRightPlain
import Derived.Test.YtpgighhnhidpcaaFreelRing
set_option linter.unusedVariables false
set_option linter.unusedSimpArgs false
namespace Go.Proofs.Ytpgighhnhidpcaa.My
/-- Each register 1 .. n-1 is in just one place. -/
structure Inv (V : NmV) (n : Nat) (fl : List RenV) : Prop where
  sd : V.Sd
  d16 : V.d.length = 16
  vn : V.n = n
  lo : 17 ≤ n
  hi : n ≤ 96
  m0 : el V.m 0 = -1
  d0 : el V.d 0 = -1
  s1 : 1 ≤ V.s
  st : stP V.s V.m V.d 0 fl = true
  pm : (ringL V.xs V.n V.h V.N ++ (V.d.drop 1 ++ outs fl)).Perm (upL (n - 1))
theorem upL_mem {x : Int} {m : Nat} (h : x ∈ upL m) : 1 ≤ x ∧ x ≤ m := by
  unfold upL at h
  obtain ⟨i, hi, rfl⟩ := List.mem_map.1 h
  have := List.mem_range.1 hi
  omega
theorem upL_nodup (m : Nat) : (upL m).Nodup := by
  rw [List.nodup_iff_count]
  intro a
  rw [upL_count]
  split <;> omega
theorem setM_at {m : List Int} {r p : Int} (hb : Rat.regB r = true) : Rat.setM m r p = m.set r.toNat p := by unfold Rat.setM; rw [if_pos hb]
theorem regB_lt {r : Int} (hb : Rat.regB r = true) : 0 < r.toNat ∧ r.toNat < 16 := by
  have : 0 < r ∧ r < 16 := by simpa [Rat.regB] using hb
  omega
theorem setM_el0 {m : List Int} {r p : Int} (hb : Rat.regB r = true) : el (Rat.setM m r p) 0 = el m 0 := by
  rw [setM_at hb]
  exact el_set_other (by have := regB_lt hb; omega) p
theorem set_drop {m : List Int} {q : Nat} {p : Int} (h : 0 < q) : (m.set q p).drop 1 = (m.drop 1).set (q - 1) p := by
  cases m with
  | nil => simp
  | cons a l =>
    obtain ⟨k, rfl⟩ : ∃ k, q = k + 1 := ⟨q - 1, by omega⟩
    simp
theorem set_perm : ∀ {l : List Int} {i : Nat} (h : i < l.length) (x : Int), (l[i] :: l.set i x).Perm (x :: l)
  | a :: l, 0, _, x => List.Perm.swap _ _ _
  | a :: l, i + 1, h, x => by
    have h' : i < l.length := by simpa using h
    have := set_perm h' x
    show (l[i] :: a :: l.set i x).Perm (x :: a :: l)
    exact (List.Perm.swap _ _ _).trans ((this.cons a).trans (List.Perm.swap _ _ _))
/-- A register set: what was there comes out, p comes in. -/
theorem setM_perm {m : List Int} {r p : Int} (hm : m.length = 16) (hb : Rat.regB r = true) : (Rat.getM m r :: (Rat.setM m r p).drop 1).Perm (p :: m.drop 1) := by
  have h2 := regB_lt hb
  rw [setM_at hb, set_drop h2.1]
  have hl : r.toNat - 1 < (m.drop 1).length := by rw [List.length_drop]; omega
  have e : Rat.getM m r = (m.drop 1)[r.toNat - 1] := by
    unfold Rat.getM
    rw [if_pos hb, List.getElem_drop, List.getElem?_eq_getElem (show r.toNat < m.length by omega)]
    simp only [Option.getD_some]
    congr 1
    omega
  rw [e]
  exact set_perm hl p
theorem getM_mem {m : List Int} {r : Int} (hm : m.length = 16) (hb : Rat.regB r = true) : Rat.getM m r ∈ m.drop 1 := by
  have h2 := regB_lt hb
  unfold Rat.getM
  rw [if_pos hb, List.getElem?_eq_getElem (show r.toNat < m.length by omega)]
  have : m[r.toNat] = (m.drop 1)[r.toNat - 1]'(by rw [List.length_drop]; omega) := by
    rw [List.getElem_drop]
    congr 1
    omega
  simp only [Option.getD_some]
  rw [this]
  exact List.getElem_mem _
/-- What the map holds in the end is among what it held and what came in. -/
theorem stP_sub {s : Int} {M : List Int} : ∀ {fl : List RenV} {m : List Int} {last : Int}, m.length = 16 → stP s M m last fl = true → ∃ rest, (M.drop 1 ++ rest).Perm (m.drop 1 ++ outs fl)
  | [], m, last, hm, h => by
    have : m = M := by simpa [stP] using h
    subst this
    exact ⟨[], by simp [outs]⟩
  | r :: fl, m, last, hm, h => by
    unfold stP at h
    split at h
    · cases h
    · split at h
      · rename_i hb
        split at h
        · cases h
        · rename_i h3
          obtain ⟨rest, hr⟩ := stP_sub (by rw [setM_len]; exact hm) h
          refine ⟨Rat.getM m r.u.dst :: rest, ?_⟩
          have ho : outs (r :: fl) = r.out :: outs fl := by
            unfold outs
            rw [List.map_cons, List.filter_cons, if_pos (by simp; exact fun e => h3 (.inl e))]
          rw [ho]
          have h1 : (M.drop 1 ++ (Rat.getM m r.u.dst :: rest)).Perm (Rat.getM m r.u.dst :: (M.drop 1 ++ rest)) := List.perm_middle
          refine h1.trans ((hr.cons _).trans ?_)
          have h2 := setM_perm (p := r.out) hm hb
          exact (h2.append_right (outs fl)).trans List.perm_middle.symm
      · split at h
        · cases h
        · rename_i h3
          obtain ⟨rest, hr⟩ := stP_sub hm h
          have ho : outs (r :: fl) = outs fl := by
            unfold outs
            rw [List.map_cons, List.filter_cons, if_neg (by simp; exact Classical.byContradiction fun e => h3 (.inl e))]
          rw [ho]
          exact ⟨rest, hr⟩
/-- A map of registers that differ, each of 1 .. n-1, is right. -/
theorem rat_right {m : List Int} {n : Nat} (hm : m.length = 16) (h0 : el m 0 = -1) (hn : (m.drop 1).Nodup) (hr : ∀ x ∈ m.drop 1, 1 ≤ x ∧ x < n) : Rat.rightB m (n : Int) = true := by
  have hel : ∀ q, 1 ≤ q → (hq : q < 16) → Rat.el m q = (m.drop 1)[q - 1]'(by rw [List.length_drop]; omega) := fun q h1 hq => by
    unfold Rat.el
    rw [List.getElem?_eq_getElem (show q < m.length by omega), List.getElem_drop]
    simp only [Option.getD_some]
    congr 1
    omega
  rw [Rat.rightB_iff]
  refine ⟨h0, fun r hr16 h1 => ?_⟩
  rw [Rat.okAt_iff]
  have hrm := hr _ (List.getElem_mem (show r - 1 < (m.drop 1).length by rw [List.length_drop]; omega))
  refine ⟨fun q hq hq1 he => ?_, by rw [hel r h1 hr16]; exact hrm.1, by rw [hel r h1 hr16]; exact hrm.2⟩
  rw [hel q hq1 (by omega), hel r h1 hr16] at he
  exact (List.pairwise_iff_getElem.1 hn) (q - 1) (r - 1) _ _ (by omega) he
theorem nodup_app {a b : List Int} (h : (a ++ b).Nodup) : a.Nodup ∧ b.Nodup := ⟨(List.nodup_append.1 h).1, (List.nodup_append.1 h).2.1⟩
theorem rtR_ok {n : Int} : ∀ {L seen : List Int}, (seen ++ L).Nodup → (∀ x ∈ L, 0 ≤ x ∧ x < n) → rtR n L seen = true := by
  intro L
  induction L with
  | nil => intro seen _ _; rfl
  | cons x L ih =>
    intro seen hn hr
    have hx := hr x (by simp)
    have hns : x ∉ seen := fun hm => (List.nodup_append.1 hn).2.2 x hm x (by simp) rfl
    unfold rtR
    have e : seen ++ (x :: L) = (seen ++ [x]) ++ L := by simp
    rw [e] at hn
    have := ih hn (fun y hy => hr y (by simp [hy]))
    simp [hx.1, hx.2, hns, this]
theorem Inv.mem {V : NmV} {n : Nat} {fl : List RenV} (h : Inv V n fl) {x : Int} (hx : x ∈ ringL V.xs V.n V.h V.N ++ (V.d.drop 1 ++ outs fl)) : 1 ≤ x ∧ x < n := by
  have := upL_mem (h.pm.mem_iff.1 hx)
  have := h.lo
  omega
theorem Inv.nodup {V : NmV} {n : Nat} {fl : List RenV} (h : Inv V n fl) : (ringL V.xs V.n V.h V.N ++ (V.d.drop 1 ++ outs fl)).Nodup := h.pm.nodup_iff.2 (upL_nodup _)
/-- Names that keep so are right. -/
theorem Inv.right {V : NmV} {n : Nat} {fl : List RenV} (h : Inv V n fl) : rgP V (n : Int) fl = true := by
  have hnd := h.nodup
  obtain ⟨nl, nd⟩ := nodup_app hnd
  have hm16 : V.m.length = 16 := h.sd.m
  obtain ⟨rest, hrest⟩ := stP_sub h.d16 h.st
  have nm1 : (V.m.drop 1).Nodup := (nodup_app (hrest.nodup_iff.2 nd)).1
  have hD : Rat.rightB V.d (n : Int) = true := rat_right h.d16 h.d0 (nodup_app nd).1 (fun x hx => h.mem (List.mem_append_right _ (List.mem_append_left _ hx)))
  have hM : Rat.rightB V.m (n : Int) = true := rat_right hm16 h.m0 nm1 (fun x hx => h.mem (List.mem_append_right _ (hrest.mem_iff.1 (List.mem_append_left _ hx))))
  have hsd : soundB V.n V.h V.N = true := sound_iff.2 h.sd.snd
  have hR : rightB V.xs V.n V.h V.N (n : Int) = true := by
    unfold rightB
    rw [hsd, Bool.true_and, decide_eq_true (show (V.n : Int) = (n : Int) by rw [h.vn]), Bool.true_and]
    exact rtR_ok (by simpa using nl) (fun x hx => by have := h.mem (List.mem_append_left _ hx); omega)
  have hp2 : (baseL V ++ (outs fl).reverse).Perm (upL (n - 1)) := by
    unfold baseL
    rw [List.append_assoc]
    exact ((List.Perm.append_left _ (List.Perm.append_left _ (List.reverse_perm _)))).trans h.pm
  have hlo := h.lo
  have hhi := h.hi
  have hO : onesB (n : Int).toNat (baseL V ++ (outs fl).reverse) = true := by
    rw [Int.toNat_natCast, onesB_iff]
    intro p h1 h2
    rw [hp2.count_eq, upL_count, if_pos (by omega)]
  have hS : stB (n : Int) (baseL V ++ (outs fl).reverse) = false := by
    unfold stB
    rw [List.any_eq_false]
    intro x hx
    have := upL_mem (hp2.mem_iff.1 hx)
    simp
    omega
  unfold rgP gdB
  rw [decide_eq_true (show (17 : Int) ≤ (n : Int) by omega), decide_eq_true (show (n : Int) ≤ 96 by omega), hM, hD, hR, h.st, hO, hS]
  rfl
theorem stP_snoc {s s' : Int} {M M' : List Int} {r : RenV} (hs : r.seq = s) (hs' : s < s') (hc : (Rat.regB r.u.dst = true ∧ r.out ≠ -1 ∧ r.old = Rat.getM M r.u.dst ∧ M' = Rat.setM M r.u.dst r.out) ∨ (Rat.regB r.u.dst = false ∧ r.out = -1 ∧ r.old = -1 ∧ M' = M)) :
    ∀ {fl : List RenV} {m : List Int} {last : Int}, last < s → stP s M m last fl = true → stP s' M' m last (fl ++ [r]) = true
  | [], m, last, hl, h => by
    have hm : m = M := by simpa [stP] using h
    subst hm
    show stP s' M' m last [r] = true
    unfold stP
    rw [if_neg (by omega)]
    rcases hc with ⟨h1, h2, h3, h4⟩ | ⟨h1, h2, h3, h4⟩
    · rw [if_pos h1, if_neg (by simp [h2, h3]), ← h4]
      simp [stP]
    · rw [if_neg (by rw [h1]; decide), if_neg (by simp [h2, h3]), ← h4]
      simp [stP]
  | a :: fl, m, last, hl, h => by
    show stP s' M' m last (a :: (fl ++ [r])) = true
    unfold stP at h ⊢
    split at h
    · cases h
    · rename_i h1
      rw [if_neg (by omega)]
      split at h
      · rename_i h2
        rw [if_pos h2]
        split at h
        · cases h
        · rename_i h3
          rw [if_neg h3]
          exact stP_snoc hs hs' hc (by omega) h
      · rename_i h2
        rw [if_neg h2]
        split at h
        · cases h
        · rename_i h3
          rw [if_neg h3]
          exact stP_snoc hs hs' hc (by omega) h
theorem stP_unsnoc {s : Int} {M : List Int} {r : RenV} : ∀ {fl : List RenV} {m : List Int} {last : Int}, m.length = 16 → el m 0 = -1 → stP s M m last (fl ++ [r]) = true → ∃ M0, M0.length = 16 ∧ el M0 0 = -1 ∧ stP s M0 m last fl = true ∧ ((Rat.regB r.u.dst = true ∧ r.out ≠ -1 ∧ r.old = Rat.getM M0 r.u.dst ∧ M = Rat.setM M0 r.u.dst r.out) ∨ (Rat.regB r.u.dst = false ∧ r.out = -1 ∧ r.old = -1 ∧ M = M0))
  | [], m, last, hm, h0, h => by
    refine ⟨m, hm, h0, by simp [stP], ?_⟩
    replace h : stP s M m last [r] = true := h
    unfold stP at h
    split at h
    · cases h
    · split at h
      · rename_i h2
        split at h
        · cases h
        · rename_i h3
          have hM : Rat.setM m r.u.dst r.out = M := by simpa [stP] using h
          exact .inl ⟨h2, fun e => h3 (.inl e), Classical.byContradiction fun e => h3 (.inr e), hM.symm⟩
      · rename_i h2
        split at h
        · cases h
        · rename_i h3
          have hM : m = M := by simpa [stP] using h
          exact .inr ⟨by simpa using h2, Classical.byContradiction fun e => h3 (.inl e), Classical.byContradiction fun e => h3 (.inr e), hM.symm⟩
  | a :: fl, m, last, hm, h0, h => by
    replace h : stP s M m last (a :: (fl ++ [r])) = true := h
    unfold stP at h
    split at h
    · cases h
    · rename_i h1
      split at h
      · rename_i h2
        split at h
        · cases h
        · rename_i h3
          obtain ⟨M0, a1, a2, a3, a4⟩ := stP_unsnoc (by rw [setM_len]; exact hm) (by rw [setM_el0 h2]; exact h0) h
          refine ⟨M0, a1, a2, ?_, a4⟩
          unfold stP
          rw [if_neg h1, if_pos h2, if_neg h3]
          exact a3
      · rename_i h2
        split at h
        · cases h
        · rename_i h3
          obtain ⟨M0, a1, a2, a3, a4⟩ := stP_unsnoc hm h0 h
          refine ⟨M0, a1, a2, ?_, a4⟩
          unfold stP
          rw [if_neg h1, if_neg h2, if_neg h3]
          exact a3
theorem stP_low {s : Int} {M m : List Int} {last last' : Int} {fl : List RenV} (hl : last' ≤ last) (h : stP s M m last fl = true) : stP s M m last' fl = true := by
  cases fl with
  | nil => exact h
  | cons a fl =>
    unfold stP at h ⊢
    split at h
    · cases h
    · rename_i h1
      rw [if_neg (by omega)]
      exact h
theorem outs_one (fl : List RenV) (r : RenV) : outs (fl ++ [r]) = outs fl ++ (if r.out = -1 then [] else [r.out]) := by
  unfold outs
  rw [List.map_append, List.filter_append]
  congr 1
  by_cases h : r.out = -1
  · simp [h]
  · simp [h]
theorem outs_cons (fl : List RenV) (r : RenV) : outs (r :: fl) = (if r.out = -1 then [] else [r.out]) ++ outs fl := by
  unfold outs
  rw [List.map_cons, List.filter_cons]
  by_cases h : r.out = -1
  · simp [h]
  · simp [h]
theorem Inv.lens {V : NmV} {n : Nat} {fl : List RenV} (h : Inv V n fl) : V.N.toNat + 15 + (outs fl).length = n - 1 := by
  have h1 := h.pm.length_eq
  have hsd : soundB V.n V.h V.N = true := sound_iff.2 h.sd.snd
  rw [List.length_append, List.length_append, List.length_drop, ring_len hsd, h.d16] at h1
  have hu : (upL (n - 1)).length = n - 1 := by simp [upL]
  omega
/-- What is renamed. -/
theorem Inv.one {V : NmV} {n : Nat} {fl : List RenV} (h : Inv V n fl) {u : UopV} (hb : onB V u = true) (hs : V.s ≤ 1000) : Inv (onV V u) n (fl ++ [onR V u]) := by
  have hq : sqS V.s = V.s + 1 := by
    unfold sqS
    have := h.s1
    rw [IntKind.wrap_u64]
    omega
  cases hr : Rat.regB u.dst with
  | false =>
    have e1 : onV V u = ⟨V.m, V.d, V.n, V.xs, V.h, V.N, sqS V.s⟩ := by simp [onV, hr]
    have e2 : onR V u = rU V.m u V.s (-1) (-1) := by simp [onR, hr]
    rw [e1, e2]
    refine ⟨⟨h.sd.m, h.sd.xs, h.sd.snd, h.sd.pos⟩, h.d16, h.vn, h.lo, h.hi, h.m0, h.d0, ?_, ?_, ?_⟩
    · show 1 ≤ sqS V.s
      rw [hq]; have := h.s1; omega
    · show stP (sqS V.s) V.m V.d 0 _ = true
      rw [hq]
      exact stP_snoc (s := V.s) rfl (by omega) (.inr ⟨hr, rfl, rfl, rfl⟩) (by have := h.s1; omega) h.st
    · rw [outs_one, if_pos (show (rU V.m u V.s (-1) (-1)).out = -1 from rfl), List.append_nil]
      exact h.pm
  | true =>
    have ht : takeB V.n V.h V.N = true := by simpa [onB, hr] using hb
    obtain ⟨hp, hs2⟩ := ring_pop (xs := V.xs) ht
    have eh : tkH V.n V.h V.N = atZ V.n V.h 1 := by simp [tkH, ht]
    have eN : tkN V.n V.h V.N = V.N - 1 := by simp [tkN, ht]
    have ep : tkP V.xs V.n V.h V.N = el V.xs V.h.toNat := by simp [tkP, ht]
    have e1 : onV V u = ⟨Rat.setM V.m u.dst (el V.xs V.h.toNat), V.d, V.n, V.xs, atZ V.n V.h 1, V.N - 1, sqS V.s⟩ := by simp [onV, hr, ht, eh, eN, ep]
    have e2 : onR V u = rU V.m u V.s (el V.xs V.h.toNat) (Rat.getM V.m u.dst) := by simp [onR, hr, ht, ep]
    have hpos : 1 ≤ el V.xs V.h.toNat := (h.mem (List.mem_append_left _ (by rw [hp]; exact List.mem_cons_self))).1
    rw [e1, e2]
    refine ⟨⟨by show (Rat.setM _ _ _).length = 16; rw [setM_len]; exact h.sd.m, h.sd.xs, take_sd ht, h.sd.pos⟩, h.d16, h.vn, h.lo, h.hi, by show el (Rat.setM _ _ _) 0 = -1; rw [setM_el0 hr]; exact h.m0, h.d0, ?_, ?_, ?_⟩
    · show 1 ≤ sqS V.s
      rw [hq]; have := h.s1; omega
    · show stP (sqS V.s) (Rat.setM V.m u.dst (el V.xs V.h.toNat)) V.d 0 _ = true
      rw [hq]
      exact stP_snoc (s := V.s) (s' := V.s + 1) (r := rU V.m u V.s (el V.xs V.h.toNat) (Rat.getM V.m u.dst)) rfl (by omega) (.inl ⟨hr, (by show el V.xs V.h.toNat ≠ -1; omega), rfl, rfl⟩) (by have := h.s1; omega) h.st
    · have ho : outs (fl ++ [rU V.m u V.s (el V.xs V.h.toNat) (Rat.getM V.m u.dst)]) = outs fl ++ [el V.xs V.h.toNat] := by
        rw [outs_one, if_neg (by show ¬ el V.xs V.h.toNat = -1; omega)]
        rfl
      rw [ho]
      refine List.Perm.trans ?_ h.pm
      show (ringL V.xs V.n (atZ V.n V.h 1) (V.N - 1) ++ (V.d.drop 1 ++ (outs fl ++ [el V.xs V.h.toNat]))).Perm _
      rw [hp]
      have h3 : (V.d.drop 1 ++ (outs fl ++ [el V.xs V.h.toNat])).Perm (el V.xs V.h.toNat :: (V.d.drop 1 ++ outs fl)) := by
        rw [← List.append_assoc]
        exact List.perm_append_singleton _ _
      exact (h3.append_left _).trans List.perm_middle
/-- What is not renamed while none flies: never. -/
theorem Inv.none {V : NmV} {n : Nat} {fl : List RenV} (h : Inv V n fl) {u : UopV} (hb : onB V u = false) : fl ≠ [] ∧ Rat.regB u.dst = true ∧ ringL V.xs V.n V.h V.N = [] := by
  unfold onB at hb
  rw [Bool.or_eq_false_iff] at hb
  have hr : Rat.regB u.dst = true := by simpa using hb.1
  have hsd : soundB V.n V.h V.N = true := sound_iff.2 h.sd.snd
  have hN : V.N = 0 := by
    have := hb.2
    rw [take_iff hsd] at this
    simpa using this
  have hl : ringL V.xs V.n V.h V.N = [] := by
    apply List.eq_nil_of_length_eq_zero
    rw [ring_len hsd, hN]
    rfl
  refine ⟨fun e => ?_, hr, hl⟩
  have := h.lens
  rw [e, hN] at this
  have h2 := h.lo
  simp [outs] at this
  omega
theorem Inv.seq {V : NmV} {n : Nat} {r : RenV} {fl : List RenV} (h : Inv V n (r :: fl)) : 0 < r.seq := by
  have := h.st
  unfold stP at this
  split at this
  · cases this
  · omega
/-- The oldest one retires. -/
theorem Inv.retire {V : NmV} {n : Nat} {r : RenV} {fl : List RenV} (h : Inv V n (r :: fl)) : Inv (rtV V r) n fl := by
  have hst := h.st
  have hsq := h.seq
  have hsd : soundB V.n V.h V.N = true := sound_iff.2 h.sd.snd
  unfold stP at hst
  split at hst
  · cases hst
  · split at hst
    · rename_i hr
      split at hst
      · cases hst
      · rename_i h3
        have hne : r.out ≠ -1 := fun e => h3 (.inl e)
        have hold : r.old = Rat.getM V.d r.u.dst := Classical.byContradiction fun e => h3 (.inr e)
        have ho : outs (r :: fl) = r.out :: outs fl := by rw [outs_cons, if_neg hne]; rfl
        have hout : 1 ≤ r.out := (h.mem (List.mem_append_right _ (List.mem_append_right _ (by rw [ho]; exact List.mem_cons_self)))).1
        have holdm : r.old ∈ V.d.drop 1 := by rw [hold]; exact getM_mem h.d16 hr
        have hold1 : 1 ≤ r.old := (h.mem (List.mem_append_right _ (List.mem_append_left _ holdm))).1
        have ha : actB r = true := by simp [actB, hr]; omega
        have hrt : rtB r = true := by simp [rtB, ha]; omega
        have hlen := h.lens
        have hNn : V.N < V.n := by
          have := h.vn
          have := h.lo
          have := h.sd.snd.2.2.2.1
          omega
        have hg : giveB V.n V.h V.N = true := by rw [give_iff hsd]; exact decide_eq_true (by omega)
        obtain ⟨hp, hs2⟩ := ring_put (p := r.old) h.sd.xs hg
        have e1 : rtV V r = ⟨V.m, Rat.setM V.d r.u.dst r.out, V.n, V.xs.set (atZ V.n V.h V.N).toNat r.old, V.h, V.N + 1, V.s⟩ := by
          unfold rtV rtD rtX rtN gvR gvN
          rw [if_pos ha, if_pos hrt, if_pos hrt, if_pos hg, if_pos hg]
        rw [e1]
        refine ⟨⟨h.sd.m, by show (V.xs.set _ _).length = V.n; rw [List.length_set]; exact h.sd.xs, sound_iff.1 hs2, ?_⟩, by show (Rat.setM _ _ _).length = 16; rw [setM_len]; exact h.d16, h.vn, h.lo, h.hi, h.m0, by show el (Rat.setM _ _ _) 0 = -1; rw [setM_el0 hr]; exact h.d0, h.s1, ?_, ?_⟩
        · intro x hx
          rcases List.mem_or_eq_of_mem_set hx with hx | rfl
          · exact h.sd.pos x hx
          · omega
        · exact stP_low (by omega) hst
        · show (ringL (V.xs.set (atZ V.n V.h V.N).toNat r.old) V.n V.h (V.N + 1) ++ ((Rat.setM V.d r.u.dst r.out).drop 1 ++ outs fl)).Perm _
          rw [hp]
          refine List.Perm.trans ?_ h.pm
          rw [ho, List.append_assoc]
          refine List.Perm.append_left _ ?_
          have h5 := setM_perm (p := r.out) h.d16 hr
          rw [← hold] at h5
          show (r.old :: ((Rat.setM V.d r.u.dst r.out).drop 1 ++ outs fl)).Perm _
          exact (h5.append_right (outs fl)).trans List.perm_middle.symm
    · rename_i hr
      split at hst
      · cases hst
      · rename_i h3
        have hne : r.out = -1 := Classical.byContradiction fun e => h3 (.inl e)
        have ha : actB r = false := by unfold actB; rw [show Rat.regB r.u.dst = false by simpa using hr]; rfl
        have hrt : rtB r = false := by simp [rtB, ha]
        have e1 : rtV V r = V := by simp [rtV, rtD, rtX, rtN, ha, hrt]
        rw [e1]
        have ho : outs (r :: fl) = outs fl := by rw [outs_cons, if_pos hne]; rfl
        exact ⟨h.sd, h.d16, h.vn, h.lo, h.hi, h.m0, h.d0, h.s1, stP_low (by omega) hst, by rw [← ho]; exact h.pm⟩
/-- The youngest one is undone. -/
theorem Inv.undo {V : NmV} {n : Nat} {r : RenV} {fl : List RenV} (h : Inv V n (fl ++ [r])) : Inv (unV V r) n fl := by
  have hsd : soundB V.n V.h V.N = true := sound_iff.2 h.sd.snd
  obtain ⟨M0, a1, a2, a3, a4⟩ := stP_unsnoc h.d16 h.d0 h.st
  rcases a4 with ⟨hr, hne, hold, hM⟩ | ⟨hr, hne, hold, hM⟩
  · have ho : outs (fl ++ [r]) = outs fl ++ [r.out] := by rw [outs_one, if_neg hne]
    have hout : 1 ≤ r.out := (h.mem (List.mem_append_right _ (List.mem_append_right _ (by rw [ho]; simp)))).1
    have ha : actB r = true := by simp [actB, hr]; omega
    have hlen := h.lens
    have hNn : V.N < V.n := by
      have := h.vn
      have := h.lo
      have := h.sd.snd.2.2.2.1
      omega
    have hg : giveB V.n V.h V.N = true := by rw [give_iff hsd]; exact decide_eq_true (by omega)
    obtain ⟨hn0, hn9, h0, h1, N0, N1, _, _⟩ := give_bounds hg
    obtain ⟨b0, b1⟩ := atZ_bounds V.h (-1) hn0
    have eM : unM V.m r = M0 := by
      unfold unM
      rw [if_pos ha, hM, hold]
      exact setM_back _ a1
    have e1 : unV V r = ⟨M0, V.d, V.n, V.xs.set (atZ V.n V.h (-1)).toNat r.out, atZ V.n V.h (-1), V.N + 1, V.s⟩ := by
      unfold unV
      rw [eM]
      unfold unX unH unN bkR bkH gvN
      rw [if_pos ha, if_pos ha, if_pos ha, if_pos hg, if_pos hg, if_pos hg]
    have hs2 : Snd V.n (atZ V.n V.h (-1)) (V.N + 1) := ⟨hn9, b0, .inl b1, by omega, by omega⟩
    have ht : takeB V.n (atZ V.n V.h (-1)) (V.N + 1) = true := by rw [take_iff (sound_iff.2 hs2)]; exact decide_eq_true (by omega)
    have hpop := (ring_pop (xs := V.xs.set (atZ V.n V.h (-1)).toNat r.out) ht).1
    have hup : atZ V.n (atZ V.n V.h (-1)) 1 = V.h := by rw [atZ_atZ]; exact atZ_zero h0 h1
    rw [hup, el_set_same (by rw [h.sd.xs]; omega), show V.N + 1 - 1 = V.N by omega] at hpop
    have hrest : ringL (V.xs.set (atZ V.n V.h (-1)).toNat r.out) V.n V.h V.N = ringL V.xs V.n V.h V.N := by
      unfold ringL
      rw [hsd, if_pos rfl, if_pos rfl]
      apply List.map_congr_left
      intro k hk
      have hk2 : k < V.N.toNat := List.mem_range.1 hk
      obtain ⟨c0, c1⟩ := atZ_bounds V.h (k : Int) hn0
      refine el_set_other ?_ r.out
      intro he
      have hz : atZ V.n V.h (k : Int) = atZ V.n V.h (-1) := by omega
      have hz2 : atZ V.n (atZ V.n V.h (-1)) ((k : Int) + 1) = atZ V.n (atZ V.n V.h (-1)) 0 := by
        rw [atZ_atZ, atZ_atZ, show -1 + ((k : Int) + 1) = (k : Int) by omega, show (-1 + 0 : Int) = -1 by omega]
        exact hz
      have h7 := atZ_ne (n := V.n) (h := atZ V.n V.h (-1)) (k := 0) (N := (k : Int) + 1) (by omega) (by omega)
      exact h7 hz2.symm
    rw [hrest] at hpop
    rw [e1]
    refine ⟨⟨a1, by show (V.xs.set _ _).length = V.n; rw [List.length_set]; exact h.sd.xs, hs2, ?_⟩, h.d16, h.vn, h.lo, h.hi, a2, h.d0, h.s1, a3, ?_⟩
    · intro x hx
      rcases List.mem_or_eq_of_mem_set hx with hx | rfl
      · exact h.sd.pos x hx
      · omega
    · show (ringL (V.xs.set (atZ V.n V.h (-1)).toNat r.out) V.n (atZ V.n V.h (-1)) (V.N + 1) ++ (V.d.drop 1 ++ outs fl)).Perm _
      rw [hpop]
      refine List.Perm.trans ?_ h.pm
      rw [ho]
      have h3 : (V.d.drop 1 ++ (outs fl ++ [r.out])).Perm (r.out :: (V.d.drop 1 ++ outs fl)) := by
        rw [← List.append_assoc]
        exact List.perm_append_singleton _ _
      exact (((h3.append_left (ringL V.xs V.n V.h V.N))).trans List.perm_middle).symm
  · have ha : actB r = false := by simp [actB, hr]
    have e1 : unV V r = V := by simp [unV, unM, unX, unH, unN, ha]
    rw [e1]
    have ho : outs (fl ++ [r]) = outs fl := by rw [outs_one, if_pos hne, List.append_nil]
    exact ⟨h.sd, h.d16, h.vn, h.lo, h.hi, h.m0, h.d0, h.s1, by rw [hM]; exact a3, by rw [← ho]; exact h.pm⟩
/-- New names are right. -/
theorem Inv.new {n : Nat} (h1 : 17 ≤ n) (h2 : n ≤ 96) : Inv (nwV (n : Int)) n [] := by
  have hc : cut (n : Int) 96 = n := by
    unfold cut
    rw [if_neg (by omega)]
    split
    · omega
    · omega
  have hc2 : cut 16 n = 16 := by
    unfold cut
    rw [if_neg (by omega), if_neg (by omega)]
    rfl
  have e1 : nwV (n : Int) = ⟨Rat.newL 16, Rat.newL 16, n, newL n 16, 0, (n : Int) - 16, 1⟩ := by
    unfold nwV
    rw [hc, hc2]
    rfl
  have hsd := nwV_sd (n : Int)
  rw [e1] at hsd ⊢
  refine ⟨hsd, l16, rfl, h1, h2, (show el (Rat.newL 16) 0 = -1 by decide), (show el (Rat.newL 16) 0 = -1 by decide), Int.le_refl _, by simp [stP], ?_⟩
  have hs : soundB n 0 ((n : Int) - 16) = true := sound_iff.2 hsd.snd
  have hL : ringL (newL n 16) n 0 ((n : Int) - 16) = (upL (n - 1)).drop 15 := by
    apply List.ext_getElem?
    intro i
    unfold ringL
    rw [if_pos hs, List.getElem?_map, List.getElem?_drop]
    unfold upL
    rw [List.getElem?_map]
    by_cases hi : i < n - 16
    · rw [List.getElem?_range (by omega), List.getElem?_range (by omega)]
      simp only [Option.map_some]
      have ha : (atZ n 0 (i : Int)).toNat = i := by
        unfold atZ
        rw [Int.emod_eq_of_lt (by omega) (by omega)]
        omega
      rw [ha]
      have he : el (newL n 16) i = 16 + (i : Int) := by
        unfold el newL fillN
        rw [List.getElem?_map, List.getElem?_range (by omega)]
        simp only [Option.map_some, Option.getD_some]
        rw [if_pos (by omega)]
        rfl
      rw [he]
      congr 1
      omega
    · rw [List.getElem?_eq_none (by simp; omega), List.getElem?_eq_none (by simp; omega)]
      rfl
  have hD : (Rat.newL 16).drop 1 = (upL (n - 1)).take 15 := by
    have : upL 15 = (upL (n - 1)).take 15 := by
      unfold upL
      rw [← List.map_take, List.take_range, Nat.min_eq_left (by omega)]
    rw [← this]
    decide
  show (ringL (newL n 16) n 0 ((n : Int) - 16) ++ ((Rat.newL 16).drop 1 ++ outs [])).Perm (upL (n - 1))
  rw [hL, hD, show outs [] = [] from rfl, List.append_nil]
  exact List.perm_append_comm.trans (by rw [List.take_append_drop])
end Go.Proofs.Ytpgighhnhidpcaa.My
